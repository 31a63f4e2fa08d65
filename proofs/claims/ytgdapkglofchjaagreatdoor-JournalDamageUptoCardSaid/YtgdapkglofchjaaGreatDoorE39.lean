/- Joined: JnZe CrcP EntP JnDa JnOd JDamage. -/
import Derived.Test.YtgdapkglofchjaaGreatDoorE34
import Derived.Test.YtgdapkglofchjaaGreatDoorE35
set_option maxRecDepth 100000
set_option maxHeartbeats 2000000
set_option linter.unusedVariables false
namespace Go.Proofs.YtgdapkglofchjaaGreatDoor
open Go.RowKit
def dmZ : List Value := .slice none 0 0 :: (evZ ++ [.int .u32 0, .int .u8 0])
def dmD {H : Type} : DataW H := .agg [.nil, evD, .lit (.int .u32 0), .lit (.int .u8 0)]
end Go.Proofs.YtgdapkglofchjaaGreatDoor
namespace Go.Proofs.YtgdapkglofchjaaGreatDoor
theorem bitS_lt {n : Nat} (h : n < 4294967296) : bitS n < 4294967296 := by
 unfold bitS
 split
 ·exact xor_lt32 (by omega) (by decide)
 ·omega
theorem bits8_lt : ∀ {k n : Nat}, n < 4294967296 → bits8 k n < 4294967296
 | 0, _, h => h
 | k + 1, n, h => bits8_lt (k := k) (n := bitS n) (bitS_lt h)
theorem crcB_lt {n c : Nat} (h : n < 4294967296) (hc : c < 256) : crcB n c < 4294967296 := bits8_lt (xor_lt32 h (by omega))
theorem crcF_lt : ∀ {l : List UInt8} {n : Nat}, n < 4294967296 → crcF n l < 4294967296
 | [], _, h => h
 | c :: r, n, h => crcF_lt (l := r) (n := crcB n c.toNat) (crcB_lt h c.toNat_lt)
theorem top_bit {m : Nat} (h : m < 2147483648) : (m ^^^ 3988292384).testBit 31 = true := by
 rw [Nat.testBit_xor, Nat.testBit_lt_two_pow (i := 31) h]
 decide
theorem xor_cancel {a b c : Nat} (h : a ^^^ c = b ^^^ c) : a = b := by
 have := congrArg (· ^^^ c) h
 simpa [Nat.xor_assoc] using this
theorem xor_cancel' {a b c : Nat} (h : c ^^^ a = c ^^^ b) : a = b := xor_cancel (c := c) (by rw [Nat.xor_comm a, Nat.xor_comm b]; exact h)
theorem bitS_inj {a b : Nat} (ha : a < 4294967296) (hb : b < 4294967296) (h : bitS a = bitS b) : a = b := by
 unfold bitS at h
 split at h <;> split at h
 ·have := xor_cancel h
  omega
 ·exfalso
  have h1 := top_bit (m := a / 2) (by omega)
  rw [h, Nat.testBit_lt_two_pow (i := 31) (show b / 2 < 2 ^ 31 by omega)] at h1
  cases h1
 ·exfalso
  have h1 := top_bit (m := b / 2) (by omega)
  rw [← h, Nat.testBit_lt_two_pow (i := 31) (show a / 2 < 2 ^ 31 by omega)] at h1
  cases h1
 ·omega
theorem bits8_inj : ∀ {k a b : Nat}, a < 4294967296 → b < 4294967296 → bits8 k a = bits8 k b → a = b
 | 0, _, _, _, _, h => h
 | k + 1, a, b, ha, hb, h => bitS_inj ha hb (bits8_inj (k := k) (bitS_lt ha) (bitS_lt hb) h)
theorem crcF_inj : ∀ {l : List UInt8} {a b : Nat}, a < 4294967296 → b < 4294967296 → crcF a l = crcF b l → a = b
 | [], _, _, _, _, h => h
 | c :: r, a, b, ha, hb, h => by
  have h1 := crcF_inj (l := r) (crcB_lt ha c.toNat_lt) (crcB_lt hb c.toNat_lt) h
  have hc := c.toNat_lt
  exact xor_cancel (bits8_inj (xor_lt32 ha (by omega)) (xor_lt32 hb (by omega)) h1)
theorem crcF_app : ∀ (l m : List UInt8) (n : Nat), crcF n (l ++ m) = crcF (crcF n l) m
 | [], _, _ => rfl
 | _ :: r, m, _ => crcF_app r m _
theorem crc_change {l m : List UInt8} {x y : UInt8} (h : x ≠ y) : crc (l ++ x :: m) ≠ crc (l ++ y :: m) := by
 intro he
 unfold crc at he
 have h1 := crcF_lt (l := l ++ x :: m) (n := 4294967295) (by omega)
 have h2 := crcF_lt (l := l ++ y :: m) (n := 4294967295) (by omega)
 have h3 : crcF 4294967295 (l ++ x :: m) = crcF 4294967295 (l ++ y :: m) := by omega
 rw [crcF_app, crcF_app] at h3
 have h4 := crcF_lt (l := l) (n := 4294967295) (by omega)
 have hx := x.toNat_lt
 have hy := y.toNat_lt
 have h5 := crcF_inj (crcB_lt h4 hx) (crcB_lt h4 hy) h3
 have h6 := xor_cancel' (bits8_inj (xor_lt32 h4 (by omega)) (xor_lt32 h4 (by omega)) h5)
 exact h (UInt8.toNat_inj.1 h6)
def num4 (a b c d : UInt8) : Nat := a.toNat + 256 * (b.toNat + 256 * (c.toNat + 256 * d.toNat))
theorem num4_sum4 {n : Nat} (h : n < 4294967296) : num4 (n % 256).toUInt8 (n / 256 % 256).toUInt8 (n / 65536 % 256).toUInt8 (n / 16777216 % 256).toUInt8 = n := by
 unfold num4
 rw [byte_nat (by omega), byte_nat (by omega), byte_nat (by omega), byte_nat (by omega)]
 omega
theorem sum4_inj {m n : Nat} (hm : m < 4294967296) (hn : n < 4294967296) (h : sum4 m = sum4 n) : m = n := by
 rw [← num4_sum4 hm, ← num4_sum4 hn]
 unfold sum4 at h
 simp only [List.cons.injEq, and_true] at h
 obtain ⟨h1, h2, h3, h4⟩ := h
 rw [h1, h2, h3, h4]
end Go.Proofs.YtgdapkglofchjaaGreatDoor
namespace Go.Proofs.YtgdapkglofchjaaGreatDoor
open Go.RowKit
theorem rd_all {r : List UInt8} {es : List (List FV)} {n : Nat} {c : Int} (hr : RdR r es n c) : ∀ {L : List (List FV)}, (∀ fs ∈ L, EGood fs) → RdR (flat L ++ r) (L ++ es) ((flat L).length + n) c
 | [], _ => by simpa [flat_nil] using hr
 | fs :: L, h => by
  have := rd_one (h fs (by simp)) (rd_all hr (L := L) (fun g hg => h g (by simp [hg])))
  rw [flat_cons, List.append_assoc, List.length_append, Nat.add_assoc]
  exact this
theorem tk_damage {x : List UInt8} (h : x ≠ []) (hl : x.length < 18446744073709551616) {i : Nat} {c d : UInt8} (hc : (x ++ sum4 (crc x))[i]? = some c) (hd : d ≠ c) : (tk (Lib.uvarint x.length ++ (x ++ sum4 (crc x)).set i d)).1 = 6 := by
 have hi := (List.getElem?_eq_some_iff.1 hc).1
 simp only [List.length_append, sum4_length] at hi
 by_cases hix : i < x.length
 ·rw [List.set_append_left _ _ hix]
  have := tk_form (x := x.set i d) (s := sum4 (crc x)) (r := []) hl (by simp) (sum4_length _)
  rw [List.append_nil] at this
  rw [this, if_pos]
  intro he
  have he := sum4_inj (crc_lt _) (crc_lt _) he
  rw [List.getElem?_append_left hix] at hc
  have hxi : x[i] = c := by rw [List.getElem?_eq_getElem hix] at hc; injection hc
  have e1 : x = x.take i ++ c :: x.drop (i + 1) := by rw [← hxi, ← List.drop_eq_getElem_cons hix, List.take_append_drop]
  have e2 : x.set i d = x.take i ++ d :: x.drop (i + 1) := by rw [List.set_eq_take_append_cons_drop, if_pos hix]
  rw [e2] at he
  rw [e1] at he
  refine crc_change (l := x.take i) (m := x.drop (i + 1)) (x := c) (y := d) (Ne.symm hd) ?_
  rw [← e1] at he ⊢
  exact he
 ·rw [List.set_append_right _ _ (by omega)]
  have := tk_form (x := x) (s := (sum4 (crc x)).set (i - x.length) d) (r := []) hl rfl (by simp [sum4_length])
  rw [List.append_nil] at this
  rw [this, if_pos]
  intro he
  rw [List.getElem?_append_right (by omega)] at hc
  have h2 : ((sum4 (crc x)).set (i - x.length) d)[i - x.length]? = some d := by rw [List.getElem?_set_self (by rw [sum4_length]; omega)]
  rw [he, hc] at h2
  injection h2 with h2
  exact hd h2.symm
theorem rd_damage {x : List UInt8} (h : x ≠ []) (hl : x.length < 18446744073709551616) {i : Nat} {c d : UInt8} (hc : (x ++ sum4 (crc x))[i]? = some c) (hd : d ≠ c) {L : List (List FV)} (hL : ∀ fs ∈ L, EGood fs) :
  RdR (flat L ++ (Lib.uvarint x.length ++ (x ++ sum4 (crc x)).set i d)) L (flat L).length 6 := by
 have ht := tk_damage h hl hc hd
 have hs := RdR.stop (l := Lib.uvarint x.length ++ (x ++ sum4 (crc x)).set i d) (by have hp := Lib.uvarint_pos x.length; intro he; have := congrArg List.length he; rw [List.length_append] at this; simp only [List.length_nil] at this; omega) (by rw [ht]; decide)
 rw [ht] at hs
 have := rd_all hs hL
 rw [List.append_nil, Nat.add_zero] at this
 exact this
theorem step_store_mid {P : Program} {ops : Array Oper} {o : Oper} {a : Act} {K : Act → World → Prop} {Q : Exit → Act → World → Prop} {E : Prop} {w : World} (ty : TypeId) (x y : Operand) (ho : o.op = .store ty x y) (hgd : o.guard = none)
  (b off : Nat) (cells : Array Value) (hx : a.eval x = .pointer (some ⟨b, off, none⟩)) (hy : a.eval y = .agg cells)
  (ht : w.there b off cells.size) (hi : (P.info? ty).map (·.size) = some cells.size) (h1 : cells.all (·.oneCell') = true)
  (h : K (a.put o.dst undef) (w.setCells b off cells.toList)) : if Region.wanted o (yielded ops a.tmps) = true then Oper.wp P o a w K Q else E := by
 rw [if_pos (by simp [Region.wanted, hgd])]
 exact wp_store_mid ty x y ho b off cells hx hy ht hi h1 h
theorem dmg_cells {w : World} {g : Nat} {E : List Value} {A : Option Addr} {n c at_ by_ : Nat} (hE : E.length = 42) (h : w.rangeAt g 0 (.slice A n c :: (E ++ [.int .u32 (at_ : Int), .int .u8 (by_ : Int)]))) :
  w.cell? ⟨g, 0, none⟩ = some (.slice A n c) ∧ w.rangeAt g 1 E ∧ w.cell? ⟨g, 43, none⟩ = some (.int .u32 (at_ : Int)) ∧ w.cell? ⟨g, 44, none⟩ = some (.int .u8 (by_ : Int)) := by
 refine ⟨h 0 _ rfl, fun j v hj => ?_, ?_, ?_⟩
 ·have := h (1 + j) v (by rw [Nat.add_comm, List.getElem?_cons_succ, List.getElem?_append_left (List.getElem?_eq_some_iff.1 hj).1]; exact hj)
  rwa [Nat.zero_add] at this
 ·have := h 43 (.int .u32 (at_ : Int)) (by rw [show (43 : Nat) = 42 + 1 from rfl, List.getElem?_cons_succ, List.getElem?_append_right (by omega), hE]; rfl)
  rwa [Nat.zero_add] at this
 ·have := h 44 (.int .u8 (by_ : Int)) (by rw [show (44 : Nat) = 43 + 1 from rfl, List.getElem?_cons_succ, List.getElem?_append_right (by omega), hE]; rfl)
  rwa [Nat.zero_add] at this
theorem xor_ne {c : UInt8} {n : Nat} (hn : n ≠ 0) (h : n < 256) : (c.toNat ^^^ n).toUInt8 ≠ c ∧ (c.toNat ^^^ n) < 256 := by
 have hc := c.toNat_lt
 have hx : c.toNat ^^^ n < 256 := Nat.xor_lt_two_pow (n := 8) (by omega) h
 refine ⟨fun e => ?_, hx⟩
 have h1 := congrArg UInt8.toNat e
 rw [byte_nat hx] at h1
 have h2 : n ^^^ c.toNat = 0 ^^^ c.toNat := by rw [Nat.zero_xor, Nat.xor_comm, h1]
 exact hn (xor_cancel h2)
theorem damage_law (L : List (List FV)) (A1 : Option Addr) (n1 c1 : Nat) (fs : List FV) (E : List Value) (at_ by_ : Nat) (w : World) (hL : EvS w A1 n1 c1 L) (hsz : (L.map lsz).sum + lsz fs ≤ 2200000) (hEv : EvR w fs E) (hat : at_ < 4294967296) (hby : by_ < 256) (D : List Value) (hD : D = .slice A1 n1 c1 :: (E ++ [.int .u32 (at_ : Int), .int .u8 (by_ : Int)])) : Calls Tryz.prog 8 #[.agg D.toArray] w fun e w' => e = .returned (.bool true) ∧ Below w.heap.size w w' := by
 have hsum : (L.map lsz).sum ≤ 2200000 := by omega
 have hz : lsz fs ≤ 2200000 := by omega
 go_enter Tryz.func8, Tryz.ntmps8
 replace hD := Lib.hid hD
 go_upto_region 1 with (fail)
 have hD0 : (w.alloc (.cells D.toArray 69)).rangeAt w.heap.size 0 D := at_new w D 69
 have hlt0 : w.heap.size < (w.alloc (.cells D.toArray 69)).heap.size := by simp
 have hb0 := (Below.refl w.heap.size w).alloc (Nat.le_refl _) (.cells D.toArray 69)
 generalize World.alloc w _ = w1 at *
 have hE42 := hEv.len
 have hE1 : E.toArray.all (·.oneCell') = true := by simpa using hEv.rd.one evC_ok
 have hi := ev_info hE42
 rw [hD.out] at hD0
 obtain ⟨hc0, hE0, hc43, hc44⟩ := dmg_cells hE42 hD0
 have hTn : Tgt (w1.alloc (.cells evZ.toArray 43)) w1.heap.size 0 evZ := Tgt.new w1 evZ.toArray _
 have hT : Tgt (w1.alloc (.cells evZ.toArray 43)).drew w1.heap.size 0 evZ := ⟨hTn.lt, hTn.at_, hTn.fr⟩
 have hthT := hT.there (n := E.toArray.size) (by rw [List.size_toArray, hE42]; decide)
 have hAE : ((w1.alloc (.cells evZ.toArray 43)).drew.setCells w1.heap.size 0 E.toArray.toList).rangeAt w1.heap.size 0 E := World.rangeAt_setCells_same _ w1.heap.size 0 E hthT
 have hltE : w1.heap.size < ((w1.alloc (.cells evZ.toArray 43)).drew.setCells w1.heap.size 0 E.toArray.toList).heap.size := by rw [setCells_size2]; exact hT.lt
 have hbAl : Below w1.heap.size w1 (w1.alloc (.cells evZ.toArray 43)).drew := ((Below.refl _ _).alloc (Nat.le_refl _) _).drew
 have hbSt : Below w1.heap.size w1 ((w1.alloc (.cells evZ.toArray 43)).drew.setCells w1.heap.size 0 E.toArray.toList) := setCells_below (Nat.le_refl _) _ _ _ hbAl
 have hSw : Below w1.heap.size w1 w1 ∧ w1.cell? ⟨w.heap.size, 0, none⟩ = some (.slice A1 n1 c1) ∧ w1.cell? ⟨w.heap.size, 43, none⟩ = some (.int .u32 (at_ : Int)) ∧ w1.cell? ⟨w.heap.size, 44, none⟩ = some (.int .u8 (by_ : Int)) ∧ w1.rangeAt w.heap.size 1 E := ⟨Below.refl _ _, hc0, hc43, hc44, hE0⟩
 clear hD0 hD
 have hS0 : (Below w1.heap.size w1 w1 ∧ w1.cell? ⟨w.heap.size, 0, none⟩ = some (.slice A1 n1 c1) ∧ w1.cell? ⟨w.heap.size, 43, none⟩ = some (.int .u32 (at_ : Int)) ∧ w1.cell? ⟨w.heap.size, 44, none⟩ = some (.int .u8 (by_ : Int)) ∧ w1.rangeAt w.heap.size 1 E) := ⟨Below.refl _ _, hc0, hc43, hc44, hE0⟩
 have keepS : ∀ v1 v2 : World, (Below w1.heap.size w1 v1 ∧ v1.cell? ⟨w.heap.size, 0, none⟩ = some (.slice A1 n1 c1) ∧ v1.cell? ⟨w.heap.size, 43, none⟩ = some (.int .u32 (at_ : Int)) ∧ v1.cell? ⟨w.heap.size, 44, none⟩ = some (.int .u8 (by_ : Int)) ∧ v1.rangeAt w.heap.size 1 E) → Below v1.heap.size v1 v2 → (Below w1.heap.size w1 v2 ∧ v2.cell? ⟨w.heap.size, 0, none⟩ = some (.slice A1 n1 c1) ∧ v2.cell? ⟨w.heap.size, 43, none⟩ = some (.int .u32 (at_ : Int)) ∧ v2.cell? ⟨w.heap.size, 44, none⟩ = some (.int .u8 (by_ : Int)) ∧ v2.rangeAt w.heap.size 1 E) := fun v1 v2 h hb => ⟨h.1.trans (hb.mono h.1.size), (hb.cell (p := ⟨w.heap.size, _, none⟩) (Nat.lt_of_lt_of_le hlt0 h.1.size)).trans h.2.1, (hb.cell (p := ⟨w.heap.size, _, none⟩) (Nat.lt_of_lt_of_le hlt0 h.1.size)).trans h.2.2.1, (hb.cell (p := ⟨w.heap.size, _, none⟩) (Nat.lt_of_lt_of_le hlt0 h.1.size)).trans h.2.2.2.1, range_up h.2.2.2.2 hb (Nat.lt_of_lt_of_le hlt0 h.1.size)⟩
 have hS1 : (Below w1.heap.size w1 w1.drew ∧ w1.drew.cell? ⟨w.heap.size, 0, none⟩ = some (.slice A1 n1 c1) ∧ w1.drew.cell? ⟨w.heap.size, 43, none⟩ = some (.int .u32 (at_ : Int)) ∧ w1.drew.cell? ⟨w.heap.size, 44, none⟩ = some (.int .u8 (by_ : Int)) ∧ w1.drew.rangeAt w.heap.size 1 E) := keepS _ _ hS0 ((Below.refl _ _).drew)
 replace keepS := Lib.hid keepS
 clear hS0
 refine wp_region_held_drew (S := fun w' => Below w1.heap.size w1 w' ∧ w'.cell? ⟨w.heap.size, 0, none⟩ = some (.slice A1 n1 c1) ∧ w'.cell? ⟨w.heap.size, 43, none⟩ = some (.int .u32 (at_ : Int)) ∧ w'.cell? ⟨w.heap.size, 44, none⟩ = some (.int .u8 (by_ : Int)) ∧ w'.rangeAt w.heap.size 1 E) (by kernel_rfl) ?_ (fun hHeld => ?_)
 ·(try dsimp only)
  exact hS1
 refine tkY 0 (v := ?v1) rfl (.inl ⟨by rfl, ?hy1⟩) ?hr1
 case hy1 => (intro w hSw; (try dsimp only at hSw); go_simp; try with_reducible rfl)
 simp only [Act.put, Z1, Z2, Z4, Z5, Z6]
 refine tkY 1 (v := ?v2) rfl (.inl ⟨by rfl, ?hy2⟩) ?hr2
 case hy2 => (intro w hSw; (try dsimp only at hSw); go_simp; try with_reducible rfl)
 simp only [Act.put, Z1, Z2, Z3, Z4, Z5, Z6]
 refine tkY 2 (v := ?v3) rfl (.inl ⟨by rfl, ?hy3⟩) ?hr3
 case hy3 => (intro w hSw; (try dsimp only at hSw); go_simp; try with_reducible rfl)
 simp only [Act.put, Z1, Z2, Z3, Z4, Z5, Z6]
 refine tkY 3 (v := .agg E.toArray) rfl (yieldsIf_load_mid (by rfl) 43 _ rfl w.heap.size 1 rfl E _ (fun v h => h.2.2.2.2) Tryz.underlying43 rfl hi) ?hr4
 simp only [Act.put, Z1, Z2, Z3, Z4, Z5, Z6]
 refine tkY 4 (v := ?v5) rfl (.inl ⟨by rfl, ?hy5⟩) ?hr5
 case hy5 => (intro w hSw; (try dsimp only at hSw); go_simp; try with_reducible rfl)
 simp only [Act.put, Z1, Z2, Z3, Z4, Z5, Z6]
 refine tkY 5 (v := ?v6) rfl (.inl ⟨by rfl, ?hy6⟩) ?hr6
 case hy6 => (intro w hSw; (try dsimp only at hSw); go_simp; try with_reducible rfl)
 simp only [Act.put, Z1, Z2, Z3, Z4, Z5, Z6]
 refine tkY 6 (v := ?v7) rfl (.inl ⟨by rfl, ?hy7⟩) ?hr7
 case hy7 => (intro w hSw; (try dsimp only at hSw); go_simp; try with_reducible rfl)
 simp only [Act.put, Z1, Z2, Z3, Z4, Z5, Z6]
 refine tkY 7 (v := ?v8) rfl (.inl ⟨by rfl, ?hy8⟩) ?hr8
 case hy8 => (intro w hSw; (try dsimp only at hSw); go_simp; try with_reducible rfl)
 simp only [Act.put, Z1, Z2, Z3, Z4, Z5, Z6]
 refine wpAnyH_ready (rs := [8]) (by kernel_rfl) (by simp) ?_
 refine AllReadyH.cons rfl (fun K hK => ?_) AllReadyH.nil
 go_simp
 have hHeld := hSw
 have hbq := hbAl
 refine hK.out _ _ ?_ (fun hHeld => ?_)
 ·(try dsimp only)
  exact keepS.out _ _ hHeld hbq
 clear hK K
 try simp only [Act.put, Z1, Z2, Z3, Z4, Z5, Z6]
 refine tkY 9 (v := ?v9) rfl (.inl ⟨by rfl, ?hy9⟩) ?hr9
 case hy9 => (intro w hSw; (try dsimp only at hSw); go_simp; try with_reducible rfl)
 simp only [Act.put, Z1, Z2, Z3, Z4, Z5, Z6]
 refine wpAnyH_ready (rs := [10]) (by kernel_rfl) (by simp) ?_
 refine AllReadyH.cons rfl (fun K hK => ?_) AllReadyH.nil
 refine step_store_mid 43 _ _ rfl rfl w1.heap.size 0 E.toArray rfl rfl hthT hi hE1 ?_
 have hHeld := hSw
 have hbq := hbSt
 refine hK.out _ _ ?_ (fun hHeld => ?_)
 ·(try dsimp only)
  exact keepS.out _ _ hHeld hbq
 clear hK K
 try simp only [Act.put, Z1, Z2, Z3]
 refine tkY 11 (v := ?v10) rfl (.inl ⟨by rfl, ?hy10⟩) ?hr10
 case hy10 => (intro w hSw; (try dsimp only at hSw); go_simp; try with_reducible rfl)
 simp only [Act.put, Z1, Z2, Z3, Z4, Z5, Z6]
 refine tkY 12 (v := ?v11) rfl (.inl ⟨by rfl, ?hy11⟩) ?hr11
 case hy11 => (intro w hSw; (try dsimp only at hSw); go_simp; try with_reducible rfl)
 simp only [Act.put, Z1, Z2, Z3, Z4, Z5, Z6]
 refine wpAnyH_done (by kernel_rfl) ?_ _
 have hbW := hHeld.1
 clear hHeld hS1 keepS
 generalize hx_ : World.setCells _ _ _ _ = w2
 have hx2 : (w1.alloc (.cells evZ.toArray 43)).drew.setCells w1.heap.size 0 E.toArray.toList = w2 := hx_
 rw [hx2] at hAE hltE hbSt
 have hbw2 : Below w.heap.size w w2 := hb0.trans (hbSt.mono hb0.size)
 clear hbSt hbAl hSw hx2 hx_ hthT hTn hT hbW hb0 hlt0 hc0 hE0 hc43 hc44
 generalize w1.heap.size = gE at *
 repeat' (first | go_skip | go_guarded | go_step)
 refine (greats_any L A1 n1 c1 w2 (hL.up hbw2)).mono ?_
 rintro e w3 ⟨b1, rfl, hb3, hn1⟩
 dsimp only
 have hbw3 : Below w.heap.size w w3 := hbw2.trans (hb3.mono hbw2.size)
 have hA3 := range_up hAE hb3 hltE
 have hlt3 := Nat.lt_of_lt_of_le hltE hb3.size
 clear hAE hltE hb3
 cases b1 with
 | true =>
  repeat' (first | go_skip | go_guarded | go_step)
  refine (lives_any w3).mono ?_
  rintro e w9 ⟨rfl, hbq⟩
  dsimp only
  repeat' (first | go_skip | go_guarded | go_step)
  go_ret
  exact ⟨rfl, hbw3.trans (hbq.mono hbw3.size)⟩
 | false =>
  have hn20 := hn1 rfl
  clear hn1
  repeat' (first | (refine wpList_load_midG 43 _ rfl gE 0 rfl (by rfl) E _ hA3 Tryz.underlying43 rfl hi ?_) | go_skip | go_guarded | go_step)
  refine (great_any fs E w3 (hEv.up hbw3)).mono ?_
  rintro e w4 ⟨b2, rfl, hb4⟩
  dsimp only
  have hbw4 : Below w.heap.size w w4 := hbw3.trans (hb4.mono hbw3.size)
  have hA4 := range_up hA3 hb4 hlt3
  have hlt4 := Nat.lt_of_lt_of_le hlt3 hb4.size
  clear hA3 hlt3 hb4
  cases b2 with
  | true =>
   repeat' (first | go_skip | go_guarded | go_step)
   refine (lives_any w4).mono ?_
   rintro e w9 ⟨rfl, hbq⟩
   dsimp only
   repeat' (first | go_skip | go_guarded | go_step)
   go_ret
   exact ⟨rfl, hbw4.trans (hbq.mono hbw4.size)⟩
  | false =>
   by_cases hy0 : by_ = 0
   ·have z : ((by_ : Int) == 0) = true := by simp; omega
    replace hy0 := Lib.hid hy0
    repeat' (first | go_skip | go_guarded | go_step)
    refine (lives_any w4).mono ?_
    rintro e w9 ⟨rfl, hbq⟩
    dsimp only
    repeat' (first | go_skip | go_guarded | go_step)
    go_ret
    exact ⟨rfl, hbw4.trans (hbq.mono hbw4.size)⟩
   ·have z : ((by_ : Int) == 0) = false := by simp; omega
    replace hy0 := Lib.hid hy0
    repeat' (first | (refine wpList_load_midG 43 _ rfl gE 0 rfl (by rfl) E _ hA4 Tryz.underlying43 rfl hi ?_) | go_skip | go_guarded | go_step)
    refine (pvalid_any fs E w4 (hEv.up hbw4) (by omega)).mono ?_
    rintro e w5 ⟨rfl, hb5⟩
    dsimp only
    have hbw5 : Below w.heap.size w w5 := hbw4.trans (hb5.mono hbw4.size)
    have hA5 := range_up hA4 hb5 hlt4
    have hlt5 := Nat.lt_of_lt_of_le hlt4 hb5.size
    clear hA4 hlt4 hb5
    by_cases hv : validF fs = 0
    ·have z0 : (validF fs == 0) = true := by simpa using hv
     have z1 : (validF fs != 0) = false := by simp [hv]
     replace hv := Lib.hid hv
     repeat' (first | go_skip | go_guarded | go_step)
     go_loopw [7, 8, 9] (fun u7 u8 u9 wr => ∃ (i : Nat) (V : List (List FV)) (A5 : Option Addr) (m5 c5 : Nat), i ≤ n1 ∧ u9 = .int .i64 (i : Int) ∧ u8 = .int .i64 (V.length : Int) ∧ u7 = .slice A5 m5 c5 ∧ m5 = (flat V).length ∧ flat V = flat (L.take i) ∧ V.length ≤ i ∧ (∀ fs ∈ V, EGood fs) ∧ m5 ≤ c5 ∧ (A5 = none → c5 = 0) ∧ Seq wr wr.heap.size 1 A5 m5 ((flat V).map bv) ∧ Below w5.heap.size w5 wr) (fun _ _ u9 _ => n1 - (intOf u9).toNat)
     case atStart => exact ⟨0, [], none, 0, 0, by omega, rfl, rfl, rfl, rfl, rfl, Nat.le_refl _, by simp, Nat.le_refl _, fun _ => rfl, Seq.nil_, Below.refl _ _⟩
     case round =>
      obtain ⟨i, V, Ab, m5, c5, hin, rfl, rfl, rfl, hm5, hfl, hVi, hgood, hcap, hnil, hq5, hbq⟩ := hrel
      have hbr : Below w.heap.size w wr := hbw5.trans (hbq.mono hbw5.size)
      have hmb2 : m5 ≤ 35 * (L.map lsz).sum := by have := hL.take i; rw [hm5, hfl]; omega
      have hmb : m5 ≤ 77000000 := by have := hL.take i; rw [hm5, hfl]; omega
      replace hm5 := Lib.hid hm5
      replace hfl := Lib.hid hfl
      by_cases hlt : i < n1
      ·have hd : (decide ((i : Int) < n1)) = true := by simp; omega
       obtain ⟨f1, hx⟩ := hL.get hlt
       obtain ⟨b, o, E1, rfl, hb, hEe, hz1, hA⟩ := hL.ev hx
       have hi1 := ev_info hEe.len
       have hsc := flat_succ hx
       have hAr := range_up hA hbr hb
       have hbi : flat (L.take (i + 1)) = flat V ++ ent f1 := by rw [hsc, hfl.out]
       replace hx := Lib.hid hx
       replace hsc := Lib.hid hsc
       replace hbi := Lib.hid hbi
       repeat' (first | (refine wpList_load_mid rfl 43 _ rfl b (o + i * 42) rfl E1 _ hAr Tryz.underlying43 rfl hi1 ?_) | go_skip | go_guarded | go_step)
       refine (papp_any f1 E1 Ab m5 c5 _ wr (hEe.up hbr) hz1 hnil hm5.out.symm (by omega) hq5).mono ?_
       rintro e w6 ⟨A8, c8, he8, hB8⟩
       rw [← hbi.out] at he8 hB8
       obtain ⟨m8, hm8⟩ : ∃ m8, m8 = (flat (L.take (i + 1))).length := ⟨_, rfl⟩
       rw [← hm8] at he8
       have hB8' : Own wr w6 5 1 (.slice A8 m8 c8) m8 ((flat (L.take (i + 1))).map bv) := by rw [hm8]; exact hB8
       have hm8e : m8 = m5 + (ent f1).length := by rw [hm8, hbi.out, List.length_append, ← hm5.out]
       replace hm8 := Lib.hid hm8
       clear hB8 hq5
       subst he8
       dsimp only
       have hbq6 := hbq.trans (hB8'.2.mono hbq.size)
       by_cases hne : encF f1 = []
       ·have hent : ent f1 = [] := ent_nil hne
        rw [hent, List.length_nil, Nat.add_zero] at hm8e
        subst hm8e
        have hfl2 : flat V = flat (L.take (i + 1)) := by rw [hbi.out, hent, List.append_nil]
        replace hfl2 := Lib.hid hfl2
        clear hne hent
        repeat' (first | go_skip | go_guarded | go_step)
        go_roundw
        case rel => exact ⟨i + 1, V, A8, m8, c8, by omega, by go_num, rfl, rfl, by rw [hm8.out, hfl2.out], hfl2.out, by omega, hgood, hB8'.cap_le, own_nilc hB8', by rw [hfl2.out]; exact hB8'.seq, hbq6⟩
        case measure => simp [intOf]; omega
       ·have hep := ent_pos hne
        have hv1 : validF f1 = 0 := Classical.byContradiction fun hv => hne (encF_nil hv)
        have heg := egood hEe hz1 hv1
        have hmlt : (m5 : Int) < (m8 : Int) := by omega
        have hdm : (decide ((m5 : Int) < m8)) = true := by simp; omega
        have hfs : flat (V ++ [f1]) = flat (L.take (i + 1)) := by rw [flat_snoc, hbi.out]
        have hl1 : (V ++ [f1]).length = V.length + 1 := by simp
        replace hm8e := Lib.hid hm8e
        replace hv1 := Lib.hid hv1
        replace hfs := Lib.hid hfs
        replace hl1 := Lib.hid hl1
        clear hep
        repeat' (first | go_skip | go_guarded | go_step)
        go_roundw
        case rel => exact ⟨i + 1, V ++ [f1], A8, m8, c8, by omega, by go_num, by rw [hl1.out]; go_num, rfl, by rw [hfs.out]; exact hm8.out, hfs.out, by rw [hl1.out]; omega, fun f hf => by
         rcases List.mem_append.1 hf with hf | hf
         ·exact hgood f hf
         ·rw [List.mem_singleton.1 hf]; exact heg, hB8'.cap_le, own_nilc hB8', by rw [hfs.out]; exact hB8'.seq, hbq6⟩
        case measure => simp [intOf]; omega
      ·have hd : (decide ((i : Int) < n1)) = false := by simp; omega
       obtain ⟨wa, hwa⟩ : ∃ wa, wa = wr := ⟨wr, rfl⟩
       subst hwa
       have hAa := range_up hA5 hbq hlt5
       have hlta := Nat.lt_of_lt_of_le hlt5 hbq.size
       clear hA5 hlt5 hbq
       have hbwa : Below w.heap.size w wa := hbr
       have hbe := (Below.refl wa.heap.size wa).alloc (Nat.le_refl _) (.cells #[] 5)
       have hAe := range_up hAa hbe hlta
       have hAw := hAa
       have hltw := hlta
       repeat' ((fail_if_success at_builtin); (first | (refine wpList_load_mid rfl 43 _ rfl gE 0 rfl E _ hAe Tryz.underlying43 rfl hi ?_) | go_skip | go_guarded | go_step))
       have hEm : Own wa (wa.alloc (.cells #[] 5)) 5 1 (.slice (some ⟨wa.heap.size, 0, none⟩) 0 0) 0 [] := Own.empty_lit wa _ 1
       generalize World.alloc wa _ = wb at *
       have hbwb : Below w.heap.size w wb := hbwa.trans (hbe.mono hbwa.size)
       have hAb := range_up hAa hbe hlta
       have hltb := Nat.lt_of_lt_of_le hlta hbe.size
       have hlen := encF_len hEv
       have hne : encF fs ≠ [] := fun e0 => by have := encF_ne hv.out; rw [e0] at this; simp at this
       obtain ⟨n3, hn3⟩ : ∃ n3, n3 = (encF fs).length := ⟨_, rfl⟩
       obtain ⟨uv, huv⟩ : ∃ uv, uv = (Lib.uvarint n3).length := ⟨_, rfl⟩
       rw [← hn3] at hlen
       have huvb : uv ≤ 10 := by rw [huv]; exact Lib.uvarint_length64 (by omega)
       refine (papp_any fs E Ab m5 c5 (flat V) wb (hEv.up hbwb) (by omega) hnil hm5.out.symm (by omega) ((hq5.below hbe).more hbe.size)).mono ?_
       rintro e w6 ⟨A8, c8, he8, hB8⟩
       obtain ⟨m8, hm8⟩ : ∃ m8, m8 = (flat V ++ ent fs).length := ⟨_, rfl⟩
       rw [← hm8] at he8
       have hB8' : Own wb w6 5 1 (.slice A8 m8 c8) m8 ((flat V ++ ent fs).map bv) := by rw [hm8]; exact hB8
       have hm8e : m8 = m5 + uv + (n3 + 4) := by
        rw [hm8, List.length_append, ← hm5.out, ent_of hne, ← hn3]
        simp only [List.length_append, sum4_length, ← hn3, ← huv]
        omega
       have hel := ent_len (encF_len hEv) (by omega)
       have hm8b : m8 ≤ 77000000 := by rw [hm8, List.length_append, ← hm5.out]; omega
       clear hel
       have hm80 : 0 < m8 := by omega
       have hn3b : n3 ≤ 30000000 := by omega
       replace hm8e := Lib.hid hm8e
       clear hB8 hq5
       replace hm8 := Lib.hid hm8
       replace hn3 := Lib.hid hn3
       replace huv := Lib.hid huv
       subst he8
       dsimp only
       have hEm6 := hEm.below hB8'.2
       have hA6 := range_up hAb hB8'.2 hltb
       have hlt6 := Nat.lt_of_lt_of_le hltb hB8'.2.size
       clear hEm hAb hltb hAa hlta hbe hAe
       repeat' ((fail_if_success at_builtin); first | go_skip | go_guarded | go_step)
       refine wp_appS hEm6 Tryz.underlying47 u8_info hB8'.seq (bv_one _) (by omega) ?_
       intro v7 w7 hO7 _
       rw [Nat.zero_add, List.nil_append] at hO7
       obtain ⟨A7, c7, rfl⟩ := hO7.slice_form
       have hbw7 : Below w.heap.size w w7 := hbwa.trans (hO7.2.mono hbwa.size)
       have hA7 : w7.rangeAt gE 0 E := range_up hAw hO7.2 hltw
       have hlt7 : gE < w7.heap.size := Nat.lt_of_lt_of_le hltw hO7.2.size
       clear hEm6 hA6 hlt6 hB8' hbwb
       repeat' (first | (refine wpList_load_mid rfl 43 _ rfl gE 0 rfl E _ hA7 Tryz.underlying43 rfl hi ?_) | go_skip | go_guarded | go_step)
       refine (penc_any fs E w7 (hEv.up hbw7) (by omega)).mono ?_
       rintro e w8 ⟨A3, c3, he, hB⟩
       rw [← hn3.out] at he
       have hb8 := hB.2
       clear hB
       subst he
       dsimp only
       have hO8 := hO7.below hb8
       obtain ⟨g7, rfl, hlo7, hhi7, hc7, hfr7⟩ := hO8.head hm80
       have hcap7 := hO8.cap_le
       have hbw8 : Below w.heap.size w w8 := hbw7.trans (hb8.mono hbw7.size)
       obtain ⟨r, hr⟩ : ∃ r, r = at_ % (n3 + 4) := ⟨_, rfl⟩
       have hrl : r < n3 + 4 := by rw [hr]; exact Nat.mod_lt _ (by omega)
       have hmod : (at_ : Int) % ((n3 : Int) + 4) = (r : Int) := by rw [hr, Int.natCast_emod]; rfl
       have hrI := hr
       replace hr := Lib.hid hr
       obtain ⟨s4, hs4⟩ : ∃ s4, s4 = n3 + 4 := ⟨_, rfl⟩
       have hs4i : (n3 : Int) + 4 = (s4 : Int) := by omega
       have hge : ¬ (m8 : Int) < (m5 : Int) + (s4 : Int) := by have := hm8e.out; omega
       have hs41 : s4 ≤ 90000004 := by omega
       have hs40 : (0 : Int) < (s4 : Int) := by omega
       have hatI : (at_ : Int) < 4294967296 := by omega
       obtain ⟨kx, hkx⟩ : ∃ kx, kx = m5 + uv + r := ⟨_, rfl⟩
       rw [hs4i] at hmod
       clear hrI
       have hki : (m8 : Int) - (s4 : Int) + (r : Int) = (kx : Int) := by have := hm8e.out; omega
       have hkl : kx < m8 := by have := hm8e.out; omega
       have hkI : (kx : Int) < (m8 : Int) := by omega
       obtain ⟨cc, hcc⟩ : ∃ cc, (flat V ++ ent fs)[kx]? = some cc := ⟨(flat V ++ ent fs)[kx]'(by rw [← hm8.out]; exact hkl), List.getElem?_eq_getElem _⟩
       have hcell := hc7 kx (bv cc) (by rw [List.getElem?_map, hcc]; rfl)
       have hfr := hfr7 kx
       have hcc256 : (cc.toNat : Int) < 256 := by have := cc.toNat_lt; omega
       have hxn := xor_ne (c := cc) hy0.out hby
       have hxor := u8_xor_nat cc.toNat by_ cc.toNat_lt hby
       replace hxn := Lib.hid hxn
       replace hxor := Lib.hid hxor
       replace hcc := Lib.hid hcc
       replace hkx := Lib.hid hkx
       replace hmod := Lib.hid hmod
       replace hki := Lib.hid hki
       have hOs := hO8.store hlo7 kx (.int .u8 ((cc.toNat ^^^ by_ : Nat) : Int))
       clear hc7 hfr7 hO7 hA7 hlt7
       replace hs4 := Lib.hid hs4
       replace hs4i := Lib.hid hs4i
       clear hlen
       go_upto_region 16 with (fail)
       rw [hs4i.out]
       go_upto_region 19 with (fail)
       rw [hmod.out]
       rw [hki.out]
       rw [show wrap64 (kx : Int) = (kx : Int) by unfold wrap64; omega]
       go_upto_region 20 with (fail)
       rw [hxor.out]
       generalize hx_ : World.setCell _ _ _ = w9
       rw [hx_] at hOs
       have hlf : (flat V ++ ent fs).set kx (cc.toNat ^^^ by_).toUInt8 = flat V ++ (Lib.uvarint (encF fs).length ++ (encF fs ++ sum4 (crc (encF fs))).set r (cc.toNat ^^^ by_).toUInt8) := by
        rw [hkx.out, ent_of hne, List.set_append_right _ _ (by rw [← hm5.out]; omega), List.set_append_right _ _ (by rw [← hn3.out, ← huv.out, ← hm5.out]; omega)]
        rw [← hn3.out, ← huv.out, ← hm5.out, show m5 + uv + r - m5 - uv = r by omega]
       have hcr : (encF fs ++ sum4 (crc (encF fs)))[r]? = some cc := by
        have := hcc.out
        rw [hkx.out, ent_of hne, List.getElem?_append_right (by rw [← hm5.out]; omega), List.getElem?_append_right (by rw [← hn3.out, ← huv.out, ← hm5.out]; omega)] at this
        rw [← hn3.out, ← huv.out, ← hm5.out, show m5 + uv + r - m5 - uv = r by omega] at this
        exact this
       have hRd := rd_damage hne (by rw [← hn3.out]; omega) hcr hxn.out.1 hgood
       rw [← hlf] at hRd
       have hcs : ((flat V ++ ent fs).map bv).set kx (.int .u8 ((cc.toNat ^^^ by_ : Nat) : Int)) = ((flat V ++ ent fs).set kx (cc.toNat ^^^ by_).toUInt8).map bv := by
        rw [List.map_set]
        congr 1
        show _ = Value.int .u8 (((cc.toNat ^^^ by_).toUInt8.toNat : Nat) : Int)
        rw [byte_nat hxn.out.2]
       rw [hcs] at hOs
       have hbw9 : Below w.heap.size w w9 := hbwa.trans (hOs.2.mono hbwa.size)
       have hl9 : ((flat V ++ ent fs).set kx (cc.toNat ^^^ by_).toUInt8).length = m8 := by rw [List.length_set, hm8.out]
       have hs9 := hOs.seq
       clear hlf hcr hcs hgood hcell hfr
       replace hRd := Lib.hid hRd
       replace hl9 := Lib.hid hl9
       repeat' (first | go_skip | go_guarded | go_step)
       refine (pread_any _ (some ⟨g7, 0, none⟩) m8 c7 w9 hl9.out (by have := hm8e.out; omega) hcap7 hs9).mono ?_
       rintro e wA ⟨Aq, cq, es, nn, code, he, hRd2, hQ, hbA⟩
       obtain ⟨he1, he2, he3⟩ := hRd2.uniq hRd.out
       subst he1 he2 he3
       rw [← hm5.out] at he
       subst he
       dsimp only
       clear hRd2 hQ
       have hbwA : Below w.heap.size w wA := hbw9.trans (hbA.mono hbw9.size)
       repeat' (first | go_skip | go_guarded | go_step)
       refine (lives_any wA).mono ?_
       rintro e wZ ⟨rfl, hbq⟩
       dsimp only
       repeat' (first | go_skip | go_guarded | go_step)
       go_ret
       exact ⟨rfl, hbwA.trans (hbq.mono hbwA.size)⟩
    ·have z0 : (validF fs == 0) = false := by simpa using hv
     have z1 : (validF fs != 0) = true := by simpa using hv
     replace hv := Lib.hid hv
     repeat' (first | go_skip | go_guarded | go_step)
     refine (lives_any w5).mono ?_
     rintro e w9 ⟨rfl, hbq⟩
     dsimp only
     repeat' (first | go_skip | go_guarded | go_step)
     go_ret
     exact ⟨rfl, hbw5.trans (hbq.mono hbw5.size)⟩
end Go.Proofs.YtgdapkglofchjaaGreatDoor
namespace Go.Proofs.YtgdapkglofchjaaGreatDoor
open Go.ChangeShapes Go.WideShapes Go.ChangeAt Go.RowKit
theorem cells_dmg : Tryz.prog.cellsOf 69 = 45 := by kernel_rfl
section
variable {H : Type} {enc : TypeId × Value → H} {W : World} {spare : Nat → Bool} {held : Bool}
theorem open_dmg {n : Nat} {cs : List Value} {y : DataW H × List MemPlace} (hl : cs.length = 45) (h : DataW.trod enc Tryz.prog W 0 spare held n 69 cs = some y) (hb : Rows.uptoBulk y.1 ≤ 1048576) :
  ∃ (L : List (List FV)) (A : Option Addr) (m c : Nat) (fs : List FV) (E : List Value) (at_ by_ : Nat), cs = .slice A m c :: (E ++ [.int .u32 (at_ : Int), .int .u8 (by_ : Int)]) ∧ EvS W A m c L ∧ RecL evC W (fun b => b < W.heap.size) fs E ∧ (L.map lsz).sum + lsz fs ≤ 2200000 ∧ at_ < 4294967296 ∧ by_ < 256 := by
 obtain ⟨xs, n', rfl, rfl, _, hxl, hf⟩ := DataW.trod_struct Tryz.underlying69 h
 match xs, hxl with
 | [y0, y1, y2, y3], _ =>
  have f0 := field_wide hf 0 (t := 58) (o := 0) (k := 1) rfl (by kernel_rfl) rfl
  have f1 := field_wide hf 1 (t := 43) (o := 1) (k := 42) rfl (by kernel_rfl) rfl
  have f2 := field_wide hf 2 (t := 66) (o := 43) (k := 1) rfl (by kernel_rfl) rfl
  have f3 := field_wide hf 3 (t := 5) (o := 44) (k := 1) rfl (by kernel_rfl) rfl
  have e1 := (List.take_append_drop 1 cs).symm
  have e2 : cs.drop 1 = (cs.drop 1).take 42 ++ cs.drop 43 := by
   have := List.take_append_drop 42 (cs.drop 1)
   rw [List.drop_drop] at this
   exact this.symm
  have e3 : cs.drop 43 = (cs.drop 43).take 1 ++ cs.drop 44 := by
   have := List.take_append_drop 1 (cs.drop 43)
   rw [List.drop_drop] at this
   exact this.symm
  have e4 : (cs.drop 44).take 1 = cs.drop 44 := List.take_of_length_le (by rw [List.length_drop]; omega)
  rw [List.drop_zero] at f0
  obtain ⟨v0, h0⟩ := one_list (l := cs.take 1) (by rw [List.length_take]; omega)
  obtain ⟨v2, h2⟩ := one_list (l := (cs.drop 43).take 1) (by rw [List.length_take, List.length_drop]; omega)
  obtain ⟨v3, h3⟩ := one_list (l := (cs.drop 44).take 1) (by rw [List.length_take, List.length_drop]; omega)
  rw [h0] at f0
  rw [h2] at f2
  rw [h3] at f3
  obtain ⟨A, m, c, rfl⟩ := slice_val Tryz.underlying58 f0
  obtain ⟨x2, rfl, hy2, hw2⟩ := int_val Tryz.underlying66 f2
  obtain ⟨x3, rfl, hy3, hw3⟩ := int_val Tryz.underlying5 f3
  have b2 : 0 ≤ x2 ∧ x2 ≤ 4294967295 := by simpa [Lit.wf, IntKind.min, IntKind.max, IntKind.signed, IntKind.bits] using hw2
  have b3 : 0 ≤ x3 ∧ x3 ≤ 255 := by simpa [Lit.wf, IntKind.min, IntKind.max, IntKind.signed, IntKind.bits] using hw3
  obtain ⟨at_, rfl⟩ := Int.eq_ofNat_of_zero_le b2.1
  obtain ⟨by_, rfl⟩ := Int.eq_ofNat_of_zero_le b3.1
  simp only [List.map_cons, List.map_nil, Rows.uptoBulk, Rows.uptoBulkAll] at hb
  obtain ⟨L, hL, _, hs⟩ := open_events f0 (by omega)
  obtain ⟨fs, hR, hz⟩ := open_event (by rw [List.length_take, List.length_drop]; omega) f1
  refine ⟨L, A, m, c, fs, (cs.drop 1).take 42, at_, by_, ?_, hL, hR, by omega, by omega, by omega⟩
  rw [← e4] at e3
  rw [h2, h3] at e3
  rw [e3] at e2
  rw [e2, h0] at e1
  exact e1
end
end Go.Proofs.YtgdapkglofchjaaGreatDoor
namespace Go.Proofs.YtgdapkglofchjaaGreatDoor
open Go.ChangeShapes Go.WideShapes Go.ChangeAt Go.RowKit
open Go.ChangeMaps (open_string shut_string)
set_option linter.unusedVariables false
namespace jdam
theorem witness_row (os : Os) {H : Type} (enc : TypeId × Value → H) :
  (Rows.OpenSpec.upto Rows.journalDamageSpec).preRow enc Tryz.prog Tryz.f8 Rows.journalDamageUptoRow.domain false Rows.journalDamageUptoRow.laid ((laidWorld os).forCall (fun _ _ => 0) ⟨#[], #[.agg dmZ.toArray], []⟩).memory #[.agg dmZ.toArray] := by
 have hw : (DataW.whole enc Tryz.prog ((laidWorld os).forCall (fun _ _ => 0) ⟨#[], #[.agg dmZ.toArray], []⟩).memory Tryz.f8.params.toList Rows.journalDamageSpec.vars false (#[.agg dmZ.toArray] : Array Value).toList 8).map (fun x => (x.1, x.2.1)) =
   some ([dmD], []) := by kernel_rfl
 obtain ⟨⟨x1, x2, x3⟩, hx, hx1⟩ := Option.map_eq_some_iff.1 hw
 simp only [Prod.mk.injEq] at hx1
 obtain ⟨rfl, rfl⟩ := hx1
 exact OpenSpec.preRow_of_cond 8 hx (by kernel_rfl) (fun k hk => by cases hk; kernel_rfl) (by kernel_rfl) (laid_met os _)
theorem lifted (os : Os) (started : os.Started) (H : Type) (enc : TypeId × Value → H) (F : Stop.Interp) :
  ReturnsInHanded {} Tryz.checked os 8 .any ((Rows.OpenSpec.upto Rows.journalDamageSpec).preRow enc Tryz.prog Tryz.f8 Rows.journalDamageUptoRow.domain false Rows.journalDamageUptoRow.laid) (((Rows.OpenSpec.upto Rows.journalDamageSpec).at F).post enc Tryz.prog Tryz.f8 false true false false) := by
 refine returnsInHanded_of_row (C := Tryz.checked) (s := Rows.OpenSpec.upto Rows.journalDamageSpec) ownK started (by kernel_rfl) Tryz.func8
  (witness_row_atRef (enc := enc) (C := Tryz.checked) false (laidWorld os) #[.agg dmZ.toArray] rfl (by kernel_rfl) (by kernel_rfl) (by kernel_rfl) (witness_row os enc)) ?_
 intro W base args ds gs before hval0 hW _ hcond _ hL hShape _
 have hval : ∀ (j : Nat) t v, Tryz.f8.params[j]? = some t → args[j]? = some v → Value.okWide Tryz.prog W .any base t v := hval0
 have hW' := hW
 obtain ⟨p, q, hA0, hV, rfl, hfz, hnd⟩ := hW
 have hA : DataW.TrodAll enc Tryz.prog W 0 (fun _ => true) true Tryz.f8.params.toList args.toList ds p := hA0
 rw [Tryz.params8] at hA hval
 obtain ⟨v0, vs0, d0, ds0, p0, q0, hargs, rfl, rfl, h0, r0⟩ := trodAll_cons hA
 obtain ⟨rfl, rfl, rfl⟩ := trodAll_nil r0
 obtain rfl : args = #[v0] := by cases args; simp_all
 obtain ⟨rfl, rfl⟩ := trodVars_none hV
 obtain ⟨ca0, rfl, hca0⟩ := okWide_struct Tryz.underlying69 (hval 0 69 v0 rfl rfl)
 have k0 := h0
 have lt0 : ∀ x ∈ p0, x.block < W.heap.size := by obtain ⟨m, hm⟩ := k0; exact DataW.trod_lt m _ _ _ hm
 obtain ⟨fuel0, hf0⟩ := h0
 have hb := of_decide_eq_true (hcond _ rfl)
 simp only [List.append_nil, Rows.uptoBulkAll] at hb
 have hbb : Rows.uptoBulk d0 ≤ 1048576 := by omega
 obtain ⟨L, A, m, c, fs, E, at_, by_, hcs, hL, hR, hsz, hat, hby⟩ := open_dmg (by rw [cells_dmg] at hca0; simpa [Value.cells] using hca0) hf0 hbb
 have hcs0 : ca0.toList = .slice A m c :: (E ++ [.int .u32 (at_ : Int), .int .u8 (by_ : Int)]) := by simpa [Value.cells] using hcs
 refine (show Calls Tryz.prog 8 #[.agg ca0] W _ from damage_law L A m c fs E at_ by_ W hL hsz ⟨hR, by omega⟩ hat hby ca0.toList hcs0).mono fun e W' ⟨he, bel⟩ => ?_
 clear hA0 hval0
 subst he
 exact ⟨_, rfl, _, _, _, [], _, [], hW', trodAll_mk1 (shut_bool Tryz.underlying4 _), (trodAll_cons_mk (Below.trod laidOut (by kernel_rfl) (of_decide_eq_true (by kernel_rfl)) k0 bel lt0) trodAll_mk0), rfl, bel.frame _, fun h => by cases h⟩
theorem said : Rows.JournalDamageUptoSaid :=
 OpenClaim.holds_of_cond 8 Tryz.f8 rfl rfl rfl rfl rfl rfl rfl ⟨rfl, rfl, rfl, rfl, rfl⟩ rfl rfl rfl rfl rfl (by kernel_rfl) Tryz.func8 (by kernel_rfl)
  (of_decide_eq_true (by kernel_rfl)) (by unfold Func.isWrapper; first | (rw [if_pos (by decide +kernel)]; kernel_rfl) | (rw [if_neg (by decide +kernel)]; exact ⟨rfl, rfl⟩))
  (fun os started H enc _ F => by rw [OpenClaim.pre_eq_preRow]; exact lifted os started H enc F)
theorem plain (f : FuncId) (fn : Func) (hf : Tryz.pinned.checked.prog.funcNamed Rows.journalDamageUptoRow.func = some f) (hfn : Tryz.pinned.checked.prog.funcs[f]? = some fn) :
  false = Tryz.pinned.checked.prog.looks [] ∧ ∀ (j : Nat) t, fn.params[j]? = some t → Tryz.pinned.checked.prog.wantsStandIn t = false := by
 obtain rfl : f = 8 := Option.some.inj ((show Tryz.prog.funcNamed Rows.journalDamageUptoRow.func = some 8 by kernel_rfl).symm.trans hf) |>.symm
 obtain rfl : fn = Tryz.f8 := (Option.some.inj (Tryz.func8.symm.trans hfn)).symm
 refine ⟨by kernel_rfl, fun j t ht => ?_⟩
 rw [Tryz.params8] at ht
 have hm := Array.mem_of_getElem? ht
 simp only [List.mem_toArray, List.mem_cons, List.not_mem_nil, or_false] at hm
 obtain rfl := hm
 change Tryz.prog.wantsStandIn _ = false
 kernel_rfl
end jdam
theorem journalDamage_cardUpto : Rows.JournalDamageUptoCardSaid :=
 Claim7.holds_tied_plain_at .later [] _ _ _ _ jdam.said (fun _ h => by cases h) (by kernel_rfl) (fun _ h => by cases h) journalDamageUpto_row_tie rfl ⟨rfl, rfl⟩ (by kernel_rfl) rfl jdam.plain (by kernel_rfl)
end Go.Proofs.YtgdapkglofchjaaGreatDoor
