/- Joined: Row JnM CrcP EntP CrcW CrcX JnGr AppW JnAp JnOl. -/
import Derived.Laws.BitsAllLaws
import Derived.Test.YtgdapkglofchjaaGreatDoorE19
set_option maxRecDepth 100000
set_option maxHeartbeats 1000000
set_option linter.unusedVariables false
namespace Go.Proofs.YtgdapkglofchjaaGreatDoor
open Go.RowKit
section
variable {α : Type} {r : Rd α} {sz : Nat} {w0 w w' wa : World} {e : TypeId} {v v' : Value} {l m : List α}
theorem RSlice.below (hr : RdOk r) {B : Nat} {A : Option Addr} {n c : Nat} (h : RSlice r sz w (fun b => b < B) A n c l) (hb : Below B w w') : RSlice r sz w' (fun b => b < B) A n c l := by
 obtain ⟨h1, h2, h3, cs, h4, h5⟩ := h
 exact ⟨h1, h2, h3, cs, Seq.below h4 hb, RList.map (fun x c hc => hr _ _ _ _ x c (fun p hp => hb.cell hp) (fun b hp => hp) hc) h5⟩
theorem RSlice.more (hr : RdOk r) {S S' : Nat → Prop} {A : Option Addr} {n c : Nat} (hS : ∀ b, S b → S' b) (h : RSlice r sz w S A n c l) : RSlice r sz w S' A n c l := by
 obtain ⟨h1, h2, h3, cs, h4, h5⟩ := h
 exact ⟨h1, h2, h3, cs, h4.imp hS, h5.weak hr hS⟩
end
theorem encF_ne {fs : List FV} (hv : validF fs = 0) : 1 ≤ (encF fs).length := by
 unfold encF recF
 rw [if_pos hv, List.length_append]
 have := uvarint_pos (ofL fs).length
 omega
end Go.Proofs.YtgdapkglofchjaaGreatDoor
namespace Go.Proofs.YtgdapkglofchjaaGreatDoor
def bitS (n : Nat) : Nat := if n % 2 = 1 then (n / 2) ^^^ 3988292384 else n / 2
def bits8 : Nat → Nat → Nat
 | 0, n => n
 | k + 1, n => bits8 k (bitS n)
def crcB (n c : Nat) : Nat := bits8 8 (n ^^^ c)
def crcF : Nat → List UInt8 → Nat
 | n, [] => n
 | n, c :: r => crcF (crcB n c.toNat) r
def crc (l : List UInt8) : Nat := 4294967295 - crcF 4294967295 l
theorem xor_lt32 {a b : Nat} (h1 : a < 4294967296) (h2 : b < 4294967296) : a ^^^ b < 4294967296 := Nat.xor_lt_two_pow (n := 32) h1 h2
theorem crc_lt (l : List UInt8) : crc l < 4294967296 := by unfold crc; omega
def sum4 (n : Nat) : List UInt8 := [(n % 256).toUInt8, (n / 256 % 256).toUInt8, (n / 65536 % 256).toUInt8, (n / 16777216 % 256).toUInt8]
theorem byte_nat {n : Nat} (h : n < 256) : n.toUInt8.toNat = n := by
 rw [Nat.toUInt8, UInt8.toNat_ofNat']
 exact Nat.mod_eq_of_lt (by simpa using h)
theorem sum4_length (n : Nat) : (sum4 n).length = 4 := rfl
end Go.Proofs.YtgdapkglofchjaaGreatDoor
namespace Go.Proofs.YtgdapkglofchjaaGreatDoor
open Go.RowKit
def entry (x : List UInt8) : List UInt8 := if x = [] then [] else Lib.uvarint x.length ++ (x ++ sum4 (crc x))
def ent (fs : List FV) : List UInt8 := entry (encF fs)
def flat (L : List (List FV)) : List UInt8 := L.flatMap ent
theorem flat_nil : flat [] = [] := rfl
theorem flat_cons (fs : List FV) (L : List (List FV)) : flat (fs :: L) = ent fs ++ flat L := rfl
theorem flat_app (L M : List (List FV)) : flat (L ++ M) = flat L ++ flat M := by unfold flat; rw [List.flatMap_append]
theorem entry_of {x : List UInt8} (h : x ≠ []) : entry x = Lib.uvarint x.length ++ (x ++ sum4 (crc x)) := by unfold entry; rw [if_neg h]
theorem ent_nil {fs : List FV} (h : encF fs = []) : ent fs = [] := by unfold ent entry; rw [if_pos h]
theorem ent_of {fs : List FV} (h : encF fs ≠ []) : ent fs = Lib.uvarint (encF fs).length ++ (encF fs ++ sum4 (crc (encF fs))) := entry_of h
theorem entry_pos {x : List UInt8} (h : x ≠ []) : (entry x).length = (Lib.uvarint x.length).length + x.length + 4 := by
 rw [entry_of h]
 simp only [List.length_append, sum4_length]
 omega
theorem and_one {a : Nat} (h : a < 4294967296) : bits .and .u32 (a : Int) 1 = ((a % 2 : Nat) : Int) := by
 have := u32_and_nat a 1 h (by decide)
 rw [Nat.and_one_is_mod] at this
 exact this
theorem not32 {a : Nat} (h : a < 4294967296) : bits .xor .u32 (if IntKind.u32.signed = true then -1 else IntKind.u32.max) (a : Int) = ((4294967295 - a : Nat) : Int) := by
 have h1 := u32_xor_nat 4294967295 a (by decide) h
 have h2 := congrArg BitVec.toNat (BitVec.allOnes_xor (x := BitVec.ofNat 32 a))
 rw [BitVec.toNat_xor, BitVec.toNat_not, BitVec.toNat_ofNat, BitVec.toNat_allOnes, Nat.mod_eq_of_lt h] at h2
 have h3 : (4294967295 : Nat) ^^^ a = 4294967295 - a := by simpa using h2
 rw [h3] at h1
 exact h1
theorem crc_at {l : List UInt8} {k : Nat} {x : UInt8} {acc : Nat} (h : l[k]? = some x) : crcF acc (l.drop k) = crcF (crcB acc x.toNat) (l.drop (k + 1)) := by
 obtain ⟨hk, he⟩ := List.getElem?_eq_some_iff.1 h
 rw [List.drop_eq_getElem_cons hk, he]; rfl
theorem check_any (A : Option Addr) (n c : Nat) (l : List UInt8) (w : World) (B : Nat) (hl : l.length = n) (hm : n ≤ 1000000000) (hs : Seq w B 1 A n (l.map bv)) :
  Calls Tryz.prog 97 #[.slice A n c] w fun e w' => e = .returned (.int .i64 (crc l : Int)) ∧ w = w' := by
 go_enter Tryz.func97, Tryz.ntmps97
 repeat' (first | go_skip | go_guarded | go_step)
 go_loop [3, 8] (fun u3 u8 => ∃ (k acc : Nat), k ≤ n ∧ acc < 4294967296 ∧ u3 = .int .u32 (acc : Int) ∧ u8 = .int .i64 (k : Int) ∧ crcF acc (l.drop k) = crcF 4294967295 l) (fun _ u8 => n - (intOf u8).toNat)
 case atStart => exact ⟨0, 4294967295, by omega, by decide, rfl, rfl, rfl⟩
 case round =>
  obtain ⟨k, acc, hk, hacc, rfl, rfl, hcrc⟩ := hrel
  have Hcrc := Lib.hid hcrc; clear hcrc
  by_cases hlt : k < n
  ·obtain ⟨b, o, rfl, hb, hc⟩ := hs.2 (by omega)
   obtain ⟨x, hx⟩ : ∃ x, l[k]? = some x := ⟨l[k]'(by omega), List.getElem?_eq_getElem (by omega)⟩
   have hcell := hc k (bv x) (by simp [hx])
   have Hx := Lib.hid hx; clear hx
   clear hc
   have hx256 : (x.toNat : Int) < 256 := by have := x.toNat_lt; omega
   have hd : (decide ((k : Int) < n)) = true := by simpa using hlt
   have hxor := u32_xor_nat acc x.toNat hacc (by omega)
   have Hxor := Lib.hid hxor; clear hxor
   repeat' (first | go_skip | go_guarded | go_step)
   rw [Hxor.out]
   go_loop [3, 16] (fun u3 u16 => ∃ (j a : Nat), j ≤ 8 ∧ a < 4294967296 ∧ u3 = .int .u32 (a : Int) ∧ u16 = .int .i64 (j : Int) ∧ bits8 (8 - j) a = crcB acc x.toNat) (fun _ u16 => 8 - (intOf u16).toNat)
   case atStart => exact ⟨0, acc ^^^ x.toNat, by omega, xor_lt32 hacc (by omega), rfl, rfl, rfl⟩
   case round =>
    obtain ⟨j, a, hj, ha, rfl, rfl, hbits⟩ := hrel
    have Hbits := Lib.hid hbits; clear hbits
    have hand := and_one ha
    by_cases hj8 : j < 8
    ·have hd8 : (decide ((j : Int) < 8)) = true := by simp; omega
     by_cases ho : a % 2 = 1
     ·have z1 : ((((a % 2 : Nat) : Int)) == 1) = true := by simp; omega
      repeat' (first | go_skip | go_guarded | go_step)
      refine ⟨⟨j + 1, (a / 2) ^^^ 3988292384, by omega, xor_lt32 (by omega) (by decide), ?_, by go_num, ?_⟩, by simp [intOf]; omega⟩
      ·rw [show ((a : Int) / 2) = ((a / 2 : Nat) : Int) by omega, show (3988292384 : Int) = ((3988292384 : Nat) : Int) from rfl, u32_xor_nat _ _ (by omega) (by decide)]
      ·rw [← Hbits.out, show 8 - j = (8 - (j + 1)) + 1 by omega, bits8, bitS, if_pos ho]
     ·have z1 : ((((a % 2 : Nat) : Int)) == 1) = false := by simp; omega
      repeat' (first | go_skip | go_guarded | go_step)
      refine ⟨⟨j + 1, a / 2, by omega, by omega, by go_num, by go_num, ?_⟩, by simp [intOf]; omega⟩
      rw [← Hbits.out, show 8 - j = (8 - (j + 1)) + 1 by omega, bits8, bitS, if_neg ho]
    ·repeat' (first | go_skip | go_guarded | go_step)
     refine ⟨⟨k + 1, a, by omega, ha, rfl, by go_num, ?_⟩, by simp [intOf]; omega⟩
     have := Hbits.out
     rw [show 8 - j = 0 by omega] at this
     rw [← Hcrc.out, crc_at Hx.out, ← this]
     rfl
  ·repeat' (first | go_skip | go_guarded | go_step)
   go_ret
   have e : acc = crcF 4294967295 l := by
    have := Hcrc.out
    rw [List.drop_of_length_le (by omega)] at this
    exact this
   refine ⟨ret_i ?_, rfl⟩
   have hn := not32 hacc
   simp only [IntKind.signed, Bool.false_eq_true, if_false] at hn ⊢
   rw [hn]
   unfold crc
   rw [← e]
   unfold wrap64; omega
theorem sum4_cells {k : Nat} (h : k < 4294967296) : (sum4 k).map bv = [Value.int IntKind.u8 ((k : Int) % 256), Value.int IntKind.u8 ((k : Int) / 256 % 256), Value.int IntKind.u8 ((k : Int) / 65536 % 256), Value.int IntKind.u8 ((k : Int) / 16777216)] := by
 unfold sum4 bv
 simp only [List.map_cons, List.map_nil]
 rw [byte_nat (by omega), byte_nat (by omega), byte_nat (by omega), byte_nat (by omega)]
 rw [show ((k % 256 : Nat) : Int) = (k : Int) % 256 by omega, show ((k / 256 % 256 : Nat) : Int) = (k : Int) / 256 % 256 by omega, show ((k / 65536 % 256 : Nat) : Int) = (k : Int) / 65536 % 256 by omega, show ((k / 16777216 % 256 : Nat) : Int) = (k : Int) / 16777216 by omega]
theorem seq_at {w : World} {g n : Nat} {cs : List Value} (hl : cs.length = n) (hg : g < w.heap.size) (hc : ∀ j u, cs[j]? = some u → w.cell? ⟨g, j, none⟩ = some u) : Seq w w.heap.size 1 (some ⟨g, 0, none⟩) n cs :=
 ⟨by omega, fun _ => ⟨g, 0, rfl, hg, fun j u hu => by rw [Nat.zero_add]; exact hc j u hu⟩⟩
theorem own_nilc {W0 w : World} {e : TypeId} {sz n c : Nat} {A : Option Addr} {xs : List Value} (H : Own W0 w e sz (.slice A n c) n xs) : A = none → c = 0 := by
 rintro rfl
 rcases H.1.2 with ⟨hv, _⟩ | ⟨g, cap, cur, hv, _⟩
 ·injection hv
 ·injection hv with h; cases h
theorem cloneB_any (A : Option Addr) (n c : Nat) (cs : List Value) (w : World) (B : Nat) (hnil : A = none → c = 0) (hs : Seq w B 1 A n cs) (h1 : ∀ u ∈ cs, u.oneCell' = true) (hn : n ≤ 1000000000) (hB : B ≤ w.heap.size) :
  Calls Tryz.prog 49 #[.slice A n c] w fun e w' => ∃ A' c', e = .returned (.slice A' n c') ∧ Own w w' 5 1 (.slice A' n c') n cs := by
 rcases A with _ | ad
 ·obtain rfl := hnil rfl
  obtain rfl : n = 0 := by
   rcases Nat.eq_zero_or_pos n with h | h
   ·exact h
   ·obtain ⟨_, _, h, _⟩ := hs.2 h
    cases h
  obtain rfl : cs = [] := List.eq_nil_of_length_eq_zero (by simpa using hs.1)
  have hq := Lib.run_eql_slice_nil (P := Tryz.prog) w 47 5 none 0 0 0 0 Tryz.underlying47
  go_enter Tryz.func49, Tryz.ntmps49
  repeat' (first | go_skip | go_guarded | go_step)
  go_ret
  exact ⟨none, 0, rfl, Own.nil_ _ _ _⟩
 ·have hq := Lib.run_eql_slice_nil (P := Tryz.prog) w 47 5 (some ad) n c 0 0 Tryz.underlying47
  go_enter Tryz.func49, Tryz.ntmps49
  repeat' ((fail_if_success at_builtin); first | go_skip | go_guarded | go_step)
  have hba := (Below.refl w.heap.size w).alloc (Nat.le_refl _) (.cells #[] 5)
  refine wp_appS (Own.empty_lit w 5 1) Tryz.underlying47 u8_info (hs.below (hba.mono hB)) h1 (by omega) ?_
  intro v w1 hown _
  repeat' (first | go_skip | go_guarded | go_step)
  go_ret
  rw [Nat.zero_add, List.nil_append] at hown
  obtain ⟨A, c, rfl⟩ := hown.slice_form
  exact ⟨A, c, rfl, hown⟩
theorem checksum_any (A : Option Addr) (n c : Nat) (l : List UInt8) (w : World) (B : Nat) (hl : l.length = n) (hm : n ≤ 1000000000) (hs : Seq w B 1 A n (l.map bv)) :
  Calls Tryz.prog 51 #[.slice A n c] w fun e w' => ∃ A' c', e = .returned (.slice A' 4 c') ∧ Bytes w w' (.slice A' 4 c') (sum4 (crc l)) := by
 go_enter Tryz.func51, Tryz.ntmps51
 repeat' (first | go_skip | go_guarded | go_step)
 refine (check_any A n c l w B hl hm hs).mono ?_
 rintro e w1 ⟨he, rfl⟩
 obtain ⟨k, hkk⟩ : ∃ k, k = crc l := ⟨_, rfl⟩
 rw [← hkk] at he
 have hc := crc_lt l
 rw [← hkk] at hc
 replace hkk := Lib.hid hkk
 subst he
 dsimp only
 have hk : (k : Int) < 4294967296 := by omega
 repeat' (first | go_skip | go_guarded | go_step)
 go_ret
 refine ⟨_, _, rfl, ?_⟩
 rw [← hkk.out]
 have := Own.lit (Below.refl _ w) (cs := #[Value.int IntKind.u8 ((k : Int) % 256), Value.int IntKind.u8 ((k : Int) / 256 % 256), Value.int IntKind.u8 ((k : Int) / 65536 % 256), Value.int IntKind.u8 ((k : Int) / 16777216)]) (e := 5) (sz := 1) (n := 4) rfl (by omega)
 unfold Bytes
 rw [sum4_length, sum4_cells hc]
 exact this
def rEv : Rd (List FV) := fun w S fs cs => RecL evC w S fs cs ∧ lsz fs ≤ 9000000
theorem rEv_ok : RdOk rEv := fun _ _ _ _ _ _ hk hS h => ⟨h.1.map evC_ok hk hS, h.2⟩
abbrev EvS (w : World) (A : Option Addr) (n c : Nat) (L : List (List FV)) : Prop := RSlice rEv 42 w (fun b => b < w.heap.size) A n c L
theorem EvS.ev {w : World} {A : Option Addr} {n c i : Nat} {L : List (List FV)} {fs : List FV} (h : EvS w A n c L) (hx : L[i]? = some fs) : ∃ b o E, A = some ⟨b, o, none⟩ ∧ b < w.heap.size ∧ EvR w fs E ∧ lsz fs ≤ 9000000 ∧ w.rangeAt b (o + i * 42) E := by
 obtain ⟨b, o, E, h1, h2, _, h4, h5⟩ := h.at_ hx
 exact ⟨b, o, E, h1, h2, ⟨h4.1, by have := h4.2; omega⟩, h4.2, fun j v hj => h5 j v hj⟩
theorem EvS.up {w z : World} {A : Option Addr} {n c : Nat} {L : List (List FV)} (h : EvS w A n c L) (hb : Below w.heap.size w z) : EvS z A n c L := (RSlice.below rEv_ok h hb).more rEv_ok (fun _ hb' => Nat.lt_of_lt_of_le hb' hb.size)
theorem EvS.get {w : World} {A : Option Addr} {n c i : Nat} {L : List (List FV)} (h : EvS w A n c L) (hi : i < n) : ∃ fs, L[i]? = some fs := ⟨L[i]'(by rw [h.1]; exact hi), List.getElem?_eq_getElem _⟩
theorem ent_len {fs : List FV} (h : (encF fs).length ≤ 11 * lsz fs + 10) (hz : lsz fs ≤ 9000000) : (ent fs).length ≤ 35 * lsz fs := by
 have h1 := lsz_length fs
 by_cases hn : encF fs = []
 ·rw [ent_nil hn]; simp
 ·unfold ent
  rw [entry_pos hn]
  have := Lib.uvarint_length64 (x := (encF fs).length) (by omega)
  omega
theorem flat_len : ∀ {L : List (List FV)}, (∀ fs ∈ L, (ent fs).length ≤ 35 * lsz fs) → (flat L).length ≤ 35 * (L.map lsz).sum
 | [], _ => by simp [flat_nil]
 | fs :: L, h => by
  have h1 := h fs (by simp)
  have h2 := flat_len (L := L) (fun g hg => h g (by simp [hg]))
  rw [flat_cons, List.length_append, List.map_cons, List.sum_cons]
  omega
theorem EvS.flat {w : World} {A : Option Addr} {n c : Nat} {L : List (List FV)} (h : EvS w A n c L) : ∀ fs ∈ L, (ent fs).length ≤ 35 * lsz fs := by
 intro fs hf
 obtain ⟨i, hi⟩ := List.mem_iff_getElem?.1 hf
 obtain ⟨b, o, E, _, _, hE, hz, _⟩ := h.ev hi
 exact ent_len (encF_len hE) hz
theorem take_sum (L : List (List FV)) (i : Nat) : ((L.take i).map lsz).sum ≤ (L.map lsz).sum := by
 conv => rhs; rw [← List.take_append_drop i L, List.map_append, List.sum_append]
 omega
theorem EvS.take {w : World} {A : Option Addr} {n c : Nat} {L : List (List FV)} (h : EvS w A n c L) (i : Nat) : (Go.Proofs.YtgdapkglofchjaaGreatDoor.flat (L.take i)).length ≤ 35 * (L.map lsz).sum := by
 have h1 := flat_len (L := L.take i) (fun fs hf => h.flat fs (List.mem_of_mem_take hf))
 have h2 := take_sum L i
 omega
theorem greats_any (L : List (List FV)) (A : Option Addr) (n c : Nat) (w : World) (h : EvS w A n c L) : Calls Tryz.prog 20 #[.slice A n c] w fun e w' => ∃ b : Bool, e = .returned (.bool b) ∧ Below w.heap.size w w' ∧ (b = false → n ≤ 20) := by
 by_cases hn20 : n ≤ 20
 ·have hd20 : (decide ((20 : Int) < n)) = false := by simp; omega
  go_enter Tryz.func20, Tryz.ntmps20
  repeat' (first | go_skip | go_guarded | go_step)
  go_loopw [3] (fun u3 wr => ∃ i : Nat, i ≤ n ∧ u3 = .int .i64 (i : Int) ∧ Below w.heap.size w wr) (fun u3 _ => n - (intOf u3).toNat)
  case atStart => exact ⟨0, by omega, rfl, Below.refl _ _⟩
  case round =>
   obtain ⟨i, hin, rfl, hbr⟩ := hrel
   by_cases hlt : i < n
   ·have hd : (decide ((i : Int) < n)) = true := by simp; omega
    obtain ⟨fs, hx⟩ := h.get hlt
    obtain ⟨b, o, E, rfl, hb, hE, hz, hA⟩ := (h.up hbr).ev hx
    have hi := ev_info hE.len
    replace hx := Lib.hid hx
    repeat' (first | (refine wpList_load_mid rfl 43 _ rfl b (o + i * 42) rfl E _ hA Tryz.underlying43 rfl hi ?_) | go_skip | go_guarded | go_step)
    refine (great_any fs E wr hE).mono ?_
    rintro e w2 ⟨b1, rfl, hb2⟩
    dsimp only
    cases b1 with
    | true =>
     repeat' (first | go_skip | go_guarded | go_step)
     go_ret
     exact ⟨true, rfl, hbr.trans (hb2.mono hbr.size), fun h => by cases h⟩
    | false =>
     repeat' (first | go_skip | go_guarded | go_step)
     go_roundw
     case rel => exact ⟨i + 1, by omega, by go_num, hbr.trans (hb2.mono hbr.size)⟩
     case measure => simp [intOf]; omega
   ·have hd : (decide ((i : Int) < n)) = false := by simp; omega
    repeat' (first | go_skip | go_guarded | go_step)
    go_ret
    exact ⟨false, rfl, hbr, fun _ => hn20⟩
 ·have hd20 : (decide ((20 : Int) < n)) = true := by simp; omega
  go_enter Tryz.func20, Tryz.ntmps20
  repeat' (first | go_skip | go_guarded | go_step)
  go_ret
  exact ⟨true, rfl, Below.refl _ _, fun h => by cases h⟩
theorem papp_any (fs : List FV) (E : List Value) (A : Option Addr) (n c : Nat) (l : List UInt8) (w : World) (h : EvR w fs E) (hz : lsz fs ≤ 9000000) (hnil : A = none → c = 0) (hl : l.length = n) (hn : n ≤ 800000000) (hs : Seq w w.heap.size 1 A n (l.map bv)) :
  Calls Tryz.prog 21 #[.slice A n c, .agg E.toArray] w (RetBytes w (l ++ ent fs)) := by
 subst hl
 have hi := ev_info h.len
 have hlen := Lib.hid (encF_len h)
 have hz' := Lib.hid hz
 go_enter Tryz.func21, Tryz.ntmps21
 go_upto_region 1 with (fail)
 have hA : (w.alloc (.cells E.toArray 43)).rangeAt w.heap.size 0 E := at_new w E 43
 have hlt0 : w.heap.size < (w.alloc (.cells E.toArray 43)).heap.size := by simp
 have hb0 := (Below.refl w.heap.size w).alloc (Nat.le_refl _) (.cells E.toArray 43)
 generalize World.alloc w _ = w1 at *
 repeat' (first | go_skip | go_guarded | go_step)
 refine (cloneB_any A l.length c (l.map bv) w1 w.heap.size hnil (hs.below hb0) (bv_one l) (by omega) (Nat.le_of_lt hlt0)).mono ?_
 rintro e w2 ⟨A2, c2, rfl, hO⟩
 dsimp only
 have hA2 := range_up hA hO.2 hlt0
 have hb2 : Below w.heap.size w w2 := hb0.trans (hO.2.mono hb0.size)
 clear hA hs hnil
 repeat' (first | (refine wpList_load_mid rfl 43 _ rfl w.heap.size 0 rfl E _ hA2 Tryz.underlying43 rfl hi ?_) | go_skip | go_guarded | go_step)
 refine (penc_any fs E w2 (h.up hb2) (by omega)).mono ?_
 rintro e w3 ⟨A3, c3, he, hB⟩
 have hO3 := hO.below hB.2
 obtain ⟨n3, hn3⟩ : ∃ n3, n3 = (encF fs).length := ⟨_, rfl⟩
 have hn3b : n3 ≤ 100000000 := by have := hlen.out; omega
 rw [← hn3] at he
 by_cases h0 : n3 = 0
 ·have hen : ent fs = [] := ent_nil (List.eq_nil_of_length_eq_zero (by omega))
  subst h0
  subst he
  dsimp only
  repeat' (first | go_skip | go_guarded | go_step)
  go_ret
  rw [hen, List.append_nil]
  exact ⟨A2, c2, rfl, hO3.up hb0⟩
 ·have hne : encF fs ≠ [] := fun e0 => h0 (by rw [hn3, e0]; rfl)
  have hen := Lib.hid (ent_of hne)
  have hB : Own w2 w3 5 1 (.slice A3 n3 c3) n3 ((encF fs).map bv) := by rw [hn3]; exact hB
  obtain ⟨g3, rfl, hlo, hhi, hc3, _⟩ := hB.head (by omega)
  have z0 : ((n3 : Int) == 0) = false := by simpa using h0
  have hb3 := hB.2
  have hcap := hB.cap_le
  clear hB
  subst he
  dsimp only
  replace hn3 := Lib.hid hn3
  clear h0
  repeat' (first | go_skip | go_guarded | go_step)
  refine (putUint_any n3 w3 (U64.mk (by omega))).mono ?_
  rintro e w4 ⟨A4, c4, he4, hP⟩
  obtain ⟨n4, hn4⟩ : ∃ n4, n4 = (Lib.uvarint n3).length := ⟨_, rfl⟩
  have h10 : n4 ≤ 10 := by rw [hn4]; exact Lib.uvarint_length64 (by omega)
  have hP' : Own w3 w4 5 1 (.slice A4 n4 c4) n4 ((Lib.uvarint n3).map bv) := by rw [hn4]; exact hP
  rw [← hn4] at he4
  clear hP
  replace hn4 := Lib.hid hn4
  subst he4
  dsimp only
  have hO4 := hO3.below hP'.2
  have hc4 : ∀ j u, ((encF fs).map bv)[j]? = some u → w4.cell? ⟨g3, j, none⟩ = some u := fun j u hu => (hP'.2.cell (p := ⟨g3, j, none⟩) hhi).trans (hc3 j u hu)
  have hlt4 : g3 < w4.heap.size := Nat.lt_of_lt_of_le hhi hP'.2.size
  have hne4 := hO.lt hlo
  clear hc3 hhi hO3
  repeat' ((fail_if_success at_builtin); first | go_skip | go_guarded | go_step)
  refine wp_appS hO4 Tryz.underlying47 u8_info hP'.seq (bv_one _) (by omega) ?_
  intro v5 w5 hO5 hg5
  obtain ⟨A5, c5, rfl⟩ := hO5.slice_form
  have hc5 : ∀ j u, ((encF fs).map bv)[j]? = some u → w5.cell? ⟨g3, j, none⟩ = some u := fun j u hu => (hg5.cell (p := ⟨g3, j, none⟩) hlt4 hne4).trans (hc4 j u hu)
  have hne5 := hg5.ne hlt4 hne4
  have hlt5 : g3 < w5.heap.size := Nat.lt_of_lt_of_le hlt4 hg5.by_.size
  clear hc4 hne4 hlt4 hg5 hP' hO4
  repeat' ((fail_if_success at_builtin); first | go_skip | go_guarded | go_step)
  refine wp_appS hO5 Tryz.underlying47 u8_info (seq_at (n := n3) (by rw [List.length_map, hn3.out]) hlt5 hc5) (bv_one _) (by omega) ?_
  intro v6 w6 hO6 hg6
  obtain ⟨A6, c6, rfl⟩ := hO6.slice_form
  have hc6 : ∀ j u, ((encF fs).map bv)[j]? = some u → w6.cell? ⟨g3, j, none⟩ = some u := fun j u hu => (hg6.cell (p := ⟨g3, j, none⟩) hlt5 hne5).trans (hc5 j u hu)
  have hlt6 : g3 < w6.heap.size := Nat.lt_of_lt_of_le hlt5 hg6.by_.size
  have hs6 := seq_at (n := n3) (by rw [List.length_map, hn3.out]) hlt6 hc6
  clear hc5 hne5 hlt5 hg6 hO5 hc6 hlt6
  repeat' (first | go_skip | go_guarded | go_step)
  refine (checksum_any (some ⟨g3, 0, none⟩) n3 c3 (encF fs) w6 w6.heap.size hn3.out.symm (by omega) hs6).mono ?_
  rintro e w7 ⟨A7, c7, rfl, hK⟩
  dsimp only
  have hO7 := hO6.below hK.2
  repeat' ((fail_if_success at_builtin); first | go_skip | go_guarded | go_step)
  refine wp_appS hO7 Tryz.underlying47 u8_info hK.seq (bv_one _) (by rw [sum4_length]; omega) ?_
  intro v8 w8 hO8 _
  obtain ⟨A8, c8, rfl⟩ := hO8.slice_form
  repeat' (first | go_skip | go_guarded | go_step)
  go_ret
  have hO9 := hO8.up hb0
  have hlen9 : (l ++ ent fs).length = l.length + n4 + n3 + 4 := by
   rw [hen.out, hn3.out, hn4.out, hn3.out]
   simp only [List.length_append, sum4_length]
   omega
  refine ⟨A8, c8, by rw [hlen9]; rfl, ?_⟩
  unfold Bytes
  rw [hlen9, hen.out, List.map_append, List.map_append, List.map_append, ← hn3.out, ← List.append_assoc, ← List.append_assoc]
  exact hO9
theorem flat_succ {L : List (List FV)} {i : Nat} {fs : List FV} (h : L[i]? = some fs) : Go.Proofs.YtgdapkglofchjaaGreatDoor.flat (L.take (i + 1)) = Go.Proofs.YtgdapkglofchjaaGreatDoor.flat (L.take i) ++ ent fs := by
 rw [List.take_add_one, h]
 simp only [Option.toList]
 rw [flat_app]
 unfold Go.Proofs.YtgdapkglofchjaaGreatDoor.flat
 simp
end Go.Proofs.YtgdapkglofchjaaGreatDoor
namespace Go.Proofs.YtgdapkglofchjaaGreatDoor
open Go.ChangeShapes Go.WideShapes Go.ChangeAt Go.RowKit
theorem rlist_memE {α : Type} {r r' : Rd α} {sz : Nat} {w : World} {S : Nat → Prop} : ∀ {l : List α} {cs : List Value}, RList r sz w S l cs → (∀ x ∈ l, ∀ cs, r w S x cs → r' w S x cs) → RList r' sz w S l cs
 | [], _, h, _ => h
 | x :: _, _, ⟨c1, c2, h1, h2, h3, h4⟩, hr => ⟨c1, c2, h1, h2, hr x (by simp) _ h3, rlist_memE h4 (fun y hy => hr y (by simp [hy]))⟩
def hbE (fs : List FV) : Nat := (lsz fs + 2) / 2
theorem sum_hbE : ∀ L : List (List FV), (L.map lsz).sum ≤ 2 * (L.map hbE).sum
 | [] => by simp
 | fs :: L => by
  have := sum_hbE L
  simp only [List.map_cons, List.sum_cons]
  unfold hbE at this ⊢
  omega
theorem mem_sum {L : List (List FV)} {fs : List FV} (h : fs ∈ L) : lsz fs ≤ (L.map lsz).sum := by
 induction L with
 | nil => cases h
 | cons g L ih =>
  simp only [List.map_cons, List.sum_cons]
  rcases List.mem_cons.1 h with rfl | h
  ·omega
  ·have := ih h; omega
section
variable {H : Type} {enc : TypeId × Value → H} {W : World} {spare : Nat → Bool} {held : Bool}
theorem open_events {fuel : Nat} {A : Option Addr} {len cap : Nat} {x : DataW H × List MemPlace} (h : DataW.trod enc Tryz.prog W 0 spare held fuel 58 [.slice A len cap] = some x) (hb : Rows.uptoBulk x.1 ≤ 1048576) :
  ∃ L, EvS W A len cap L ∧ (L.map lsz).sum ≤ 2200000 ∧ (L.map lsz).sum ≤ 2 * Rows.uptoBulk x.1 := by
 obtain ⟨L, ⟨h1, h2, h3, cs, h4, h5⟩, _, h7⟩ := open_list (r := fun w S fs cs => RecL evC w S fs cs) (sz := 42) (bulk := hbE) Tryz.underlying58 cells_ev (by omega) (fun n cs y _ hl hy => by
  obtain ⟨fs, g1, g2⟩ := open_event hl hy
  exact ⟨fs, g1, by unfold hbE; omega⟩) h
 have hs := sum_hbE L
 refine ⟨L, ⟨h1, h2, h3, cs, h4, rlist_memE h5 (fun fs hf cs hr => ⟨hr, ?_⟩)⟩, by omega, by omega⟩
 have := mem_sum hf
 omega
end
end Go.Proofs.YtgdapkglofchjaaGreatDoor
