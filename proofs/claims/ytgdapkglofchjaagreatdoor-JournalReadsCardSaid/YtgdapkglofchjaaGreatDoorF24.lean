/- Joined: Mem Open OctPure Take Num Str RList RList2 Fields TyPure JnM JnBk JnBp. -/
import Derived.Test.YtgdapkglofchjaaGreatDoorF22
set_option maxRecDepth 100000
set_option maxHeartbeats 2000000
set_option linter.unusedVariables false
namespace Go.Proofs.YtgdapkglofchjaaGreatDoor
open Go.RowKit
theorem Below.box {B : Nat} {a w : World} (h : Below B a w) (hB : B ≤ a.heap.size) (o : Obj) : Below B a (w.alloc o) := h.alloc (Nat.le_trans hB h.size) o
section
variable {w w' : World} {B B' sz n : Nat} {A : Option Addr} {cs : List Value} {S S' : Nat → Prop}
theorem SeqP.empty (A : Option Addr) : SeqP w S sz A 0 [] := ⟨by simp, fun h => absurd h (by omega)⟩
end
section
variable {P : Program} {ops : Array Oper} {rest : List Oper} {o : Oper} {a : Act} {Q : Exit → Act → World → Prop} {w W0 : World} {e : TypeId} {size n : Nat} {v : Value} {xs : List Value}
end
end Go.Proofs.YtgdapkglofchjaaGreatDoor
namespace Go.Proofs.YtgdapkglofchjaaGreatDoor
open Go.ChangeShapes Go.WideShapes Go.ChangeAt Go.RowKit
theorem open_bytes {H : Type} {enc : TypeId × Value → H} {P : Program} {W : World} {spare : Nat → Bool} {held : Bool} {t e : TypeId} {a0 : Option Addr} {len cap : Nat} {d : DataW H} {p : List MemPlace}
  (ht : P.underlying t = some (.slice e)) (he : P.underlying e = some (.int .u8)) (hc : P.cellsOf e = 1) (h : DataW.Trod enc P W 0 spare held t (.slice a0 len cap) d p) :
  ∃ l : List UInt8, l.length = len ∧ len ≤ cap ∧ cap ≤ maxLen ∧ (a0 = none → cap = 0) ∧ Seq W W.heap.size 1 a0 len (l.map bv) := by
 obtain ⟨fuel, hf⟩ := h
 rcases open_ints ht he hc hf with ⟨hcs, _⟩ | ⟨x, l, c, zs, hcs, _, hl, hm, hz, _, hcell, hwz⟩
 ·simp [Value.cells] at hcs
  obtain ⟨rfl, rfl, rfl⟩ := hcs
  exact ⟨[], rfl, Nat.le_refl _, Nat.zero_le _, fun _ => rfl, Seq.nil_⟩
 ·simp [Value.cells] at hcs
  obtain ⟨rfl, rfl, rfl⟩ := hcs
  have hlz : len ≤ zs.length := by rw [hz]; split <;> omega
  refine ⟨(zs.take len).map fun z => UInt8.ofNat z.toNat, by simp; omega, hl, hm, fun h => by simp at h, ?_⟩
  refine seq_of_cells (by simp; omega) (by omega) ?_
  intro j u hu
  have hj : j < len := by
   have := (List.getElem?_eq_some_iff.1 hu).1
   simp at this; omega
  rw [hcell j (by omega)]
  have hx : zs[j]? = some (zs[j]'(by omega)) := List.getElem?_eq_getElem (by omega)
  have hw := hwz (zs[j]'(by omega)) (List.getElem_mem _)
  have hb : 0 ≤ zs[j]'(by omega) ∧ zs[j]'(by omega) ≤ 255 := by simpa [Lit.wf, IntKind.min, IntKind.max, IntKind.signed, IntKind.bits] using hw
  simp only [List.map_map, List.getElem?_map, List.getElem?_take, if_pos hj, hx, Option.map_some, Function.comp_apply, Option.some.injEq] at hu
  subst hu
  simp only [List.getD, hx, Option.getD_some]
  congr 2
  rw [UInt8.toNat_ofNat']
  omega
end Go.Proofs.YtgdapkglofchjaaGreatDoor
namespace Go.Proofs.YtgdapkglofchjaaGreatDoor
theorem add_group {k acc x p : Nat} (hp : p = 128 ^ k) (hk : k ≤ 9) (hacc : acc < 128 ^ k) (hx : x < 256) (h9 : k = 9 → x ≤ 1) :
  IntKind.u64.wrap ((acc : Int) + IntKind.u64.wrap ((p : Int) * ((x : Int) % 128))) = ((acc + x % 128 * 128 ^ k : Nat) : Int) := by
 have hlt := mul128_lt (k := k) (x := x % 128) hk (by omega) (fun h => by have := h9 h; omega)
 have e : ((p : Int) * ((x : Int) % 128)) = ((x % 128 * 128 ^ k : Nat) : Int) := by
  rw [hp]; push_cast; rw [Int.mul_comm]
 rw [e, IntWalk.u64_in ((x % 128 * 128 ^ k : Nat) : Int) (by omega)]
 have hsum : acc + x % 128 * 128 ^ k < 18446744073709551616 := by
  rcases Nat.lt_or_ge k 9 with h | h
  ·have h1 := acc_lt (x := x % 128) hacc (by omega)
   have h2 := pow128_le (k := k + 1) (by omega)
   omega
  ·obtain rfl : k = 9 := by omega
   have e9 : 128 ^ 9 = 9223372036854775808 := by decide
   have := Nat.mul_le_mul (show x % 128 ≤ 1 by have := h9 rfl; omega) (Nat.le_refl (128 ^ 9))
   rw [e9] at this hacc ⊢
   omega
 rw [← Int.natCast_add, IntWalk.u64_in _ (by omega)]
theorem by_group {k p : Nat} (hp : p = 128 ^ k) (hk : k < 9) : IntKind.u64.wrap ((p : Int) * 128) = ((p * 128 : Nat) : Int) ∧ p * 128 = 128 ^ (k + 1) := by
 have h2 := pow128_le (k := k + 1) (by omega)
 rw [Nat.pow_succ, ← hp] at h2
 exact ⟨by rw [IntWalk.u64_in _ (by omega)]; push_cast; rfl, by rw [Nat.pow_succ, hp]⟩
theorem unzig_odd {n : Nat} (hn : n < 18446744073709551616) (h : ((n : Int) % 2 == 1) = true) :
  RowKit.wrap64 (RowKit.wrap64 (-RowKit.wrap64 (IntKind.u64.wrap ((n : Int) / 2))) - 1) = unzig n := by
 have h := beq_iff_eq.1 h
 rw [IntWalk.u64_in _ (by omega), IntWalk.wrap64_in ((n : Int) / 2) (by omega), IntWalk.wrap64_in (-((n : Int) / 2)) (by omega), IntWalk.wrap64_in _ (by omega)]
 unfold unzig
 rw [if_pos (by omega)]
 omega
theorem unzig_even {n : Nat} (hn : n < 18446744073709551616) (h : ((n : Int) % 2 == 1) = false) :
  RowKit.wrap64 (IntKind.u64.wrap ((n : Int) / 2)) = unzig n := by
 have h := beq_eq_false_iff_ne.1 h
 rw [IntWalk.u64_in _ (by omega), IntWalk.wrap64_in _ (by omega)]
 unfold unzig
 rw [if_neg (by omega)]
 omega
end Go.Proofs.YtgdapkglofchjaaGreatDoor
namespace Go.Proofs.YtgdapkglofchjaaGreatDoor
open Go.RowKit
theorem rTakeUint_any (A : Option Addr) (n c : Nat) (l : List UInt8) (w : World) (B : Nat) (hl : l.length = n) (hm : n ≤ 1000000000) (hs : Seq w B 1 A n (l.map bv)) :
  Calls Tryz.prog 55 #[.slice A n c] w fun e w' => e = trip .i64 (takeU l) ∧ w = w' := by
 go_enter Tryz.func55, Tryz.ntmps55
 repeat' (first | go_skip | go_guarded | go_step)
 go_loop [5, 6, 7] (fun u5 u6 u7 => ∃ (k acc p : Nat), k ≤ n ∧ k ≤ 9 ∧ acc < 128 ^ k ∧ p = 128 ^ k ∧ u7 = .int .i64 (k : Int) ∧ u5 = .int .u64 (acc : Int) ∧ u6 = .int .u64 (p : Int) ∧ tu k acc (l.drop k) = takeU l) (fun _ _ u7 => n - (intOf u7).toNat)
 case atStart => exact ⟨0, 0, 1, by omega, by omega, by simp, by simp, rfl, rfl, rfl, rfl⟩
 case round =>
  obtain ⟨k, acc, p, hk, hk9, hacc, hp, rfl, rfl, rfl, htu⟩ := hrel
  have Htu := Lib.hid htu; clear htu
  have Hacc := Lib.hid hacc; clear hacc
  have Hp := Lib.hid hp; clear hp
  by_cases hlt : k < n
  ·obtain ⟨b, o, rfl, hb, hc⟩ := hs.2 (by omega)
   obtain ⟨x, hx⟩ : ∃ x, l[k]? = some x := ⟨l[k]'(by omega), List.getElem?_eq_getElem (by omega)⟩
   have hcell := hc k (bv x) (by simp [hx])
   have Hx := Lib.hid hx; clear hx
   clear hc
   have hx256 : (x.toNat : Int) < 256 := by have := x.toNat_lt; omega
   have hor := fun h9 => add_group (x := x.toNat) Hp.out hk9 Hacc.out (by omega) h9
   have Hor := Lib.hid hor; clear hor
   have H9 : Hid (k = 9 ↔ ((k : Int) == 9) = true) := by unfold Hid; simp; omega
   have H0 : Hid (x.toNat = 0 ↔ ((x.toNat : Int) == 0) = true) := by unfold Hid; simp
   rcases Bool.eq_false_or_eq_true ((k : Int) == 9) with e9 | e9 <;> rcases Bool.eq_false_or_eq_true ((x.toNat : Int) == 0) with e0 | e0
   all_goals
    have h9 := H9.out
    have h0 := H0.out
    rw [e9] at h9
    rw [e0] at h0
    clear H9 H0
    have H9 := Lib.hid h9; clear h9
    have H0 := Lib.hid h0; clear h0
    repeat' (first | go_skip | go_guarded | go_step)
   all_goals have h9 := H9.out
   all_goals have h0 := H0.out
   all_goals simp only [iff_true, Bool.false_eq_true, iff_false] at h9 h0
   all_goals first
    | (go_ret3; exact ⟨trip_of (Htu.out.symm.trans (by subst h9; exact tu_nine Hx.out (by omega))) rfl rfl rfl, rfl⟩)
    | (go_ret3; exact ⟨trip_of (Htu.out.symm.trans (tu_zero Hx.out h0 (by omega))) rfl rfl rfl, rfl⟩)
    | (go_ret3; refine ⟨trip_of (Htu.out.symm.trans (tu_last Hx.out (by omega) (by omega) (by omega))) ?_ rfl rfl, rfl⟩; rw [Hor.out (by omega)]; congr 2; rw [Nat.mod_eq_of_lt (by omega)])
    | skip
   all_goals
    have hge : (128 : Int) ≤ (x.toNat : Int) := by assumption
    first | (exfalso; omega) | skip
   all_goals
    have hge : (128 : Int) ≤ (x.toNat : Int) := by assumption
    have hby := by_group (k := k) Hp.out (by omega)
    go_round
    case rel =>
     refine ⟨k + 1, acc + (x.toNat - 128) * 128 ^ k, p * 128, by omega, by omega, acc_lt Hacc.out (by omega), hby.2, by go_num, ?_, ?_, ?_⟩
     ·rw [Hor.out (by omega), show x.toNat % 128 = x.toNat - 128 from by omega]
     ·rw [hby.1]
     ·rw [← Htu.out]; exact (tu_more Hx.out h9 (by omega)).symm
    case measure => simp [intOf]; omega
  ·repeat' (first | go_skip | go_guarded | go_step)
   go_ret3
   exact ⟨trip_of (Htu.out.symm.trans (tu_end (by omega))) rfl rfl rfl, rfl⟩
theorem rTakeInt_any (A : Option Addr) (n c : Nat) (l : List UInt8) (w : World) (B : Nat) (hl : l.length = n) (hm : n ≤ 1000000000) (hs : Seq w B 1 A n (l.map bv)) :
  Calls Tryz.prog 146 #[.slice A n c] w fun e w' => e = itrip (takeI l) ∧ w = w' := by
 have hT := takeU_lt l
 unfold takeI
 have C := rTakeUint_any A n c l w B hl hm hs
 generalize takeU l = T at hT C ⊢
 obtain ⟨a, b, k⟩ := T
 have HT := Lib.hid hT; clear hT
 go_enter Tryz.func146, Tryz.ntmps146
 repeat' (first | go_skip | go_guarded | go_step)
 refine C.mono ?_; unfold trip; rintro e w' ⟨rfl, rfl⟩; dsimp only
 repeat' (first | go_skip | go_guarded | go_step)
 ·go_ret3
  exact ⟨itrip_of rfl (unzig_odd HT.out (by assumption)) rfl rfl, rfl⟩
 ·go_ret3
  exact ⟨itrip_of rfl (unzig_even HT.out (by assumption)) rfl rfl, rfl⟩
theorem rTakeStr_any (A : Option Addr) (n c : Nat) (l : List UInt8) (w : World) (B : Nat) (hl : l.length = n) (hm : n ≤ 1000000000) (hc : n ≤ c) (hs : Seq w B 1 A n (l.map bv)) :
  Calls Tryz.prog 147 #[.slice A n c] w fun e w' => e = strip (takeS l) ∧ w = w' := by
 have hT := takeU_lt l
 have hK := @takeU_len l
 unfold takeS
 have C := rTakeUint_any A n c l w B hl hm hs
 generalize takeU l = T at hT hK C ⊢
 obtain ⟨a, b, k⟩ := T
 dsimp only at hT hK ⊢
 have HT := Lib.hid hT; clear hT
 have HK := Lib.hid hK; clear hK
 by_cases hk : k = 0
 ·subst hk
  have hb := HK.out rfl
  have hsub : IntKind.i64.wrap ((n : Int) - b) = (n : Int) - b := IntWalk.i64_in _ (by omega)
  have hsub2 : IntKind.u64.wrap ((n : Int) - b) = (n : Int) - b := IntWalk.u64_in _ (by omega)
  go_enter Tryz.func147, Tryz.ntmps147
  repeat' (first | go_skip | go_guarded | go_step)
  refine C.mono ?_; unfold trip; rintro e w' ⟨rfl, rfl⟩; dsimp only
  repeat' (first | (with_reducible (show wpList _ _ _ (_ :: _) _ _)); refine wp_bytes_str (B := B) (l := (l.drop b).take a) Tryz.underlying47 Tryz.underlying5 Tryz.underlying9 ?_ ?_ | go_skip | go_guarded | go_step)
  ·go_ret3
   have hlt : (n : Int) - b < a := by assumption
   exact ⟨strip_of (x := []) (by rw [if_neg (by simp), if_pos (by omega)]) rfl rfl rfl, rfl⟩
  ·have hle : (a : Int) ≤ n - b := by assumption
   have := hs.sub1 (lo := b) (hi := b + a) (by omega) (by omega) hc
   rw [← List.map_drop, ← List.map_take, show b + a - b = a from by omega] at this
   rw [show b + a - b = a from by omega]
   exact this
  ·go_ret3
   have hle : (a : Int) ≤ n - b := by assumption
   exact ⟨strip_of (x := (l.drop b).take a) (by rw [if_neg (by simp), if_neg (by omega)]) rfl rfl rfl, rfl⟩
 ·have hk' : ((k : Int) == 0) = false := by simp; omega
  go_enter Tryz.func147, Tryz.ntmps147
  repeat' (first | go_skip | go_guarded | go_step)
  refine C.mono ?_; unfold trip; rintro e w' ⟨rfl, rfl⟩; dsimp only
  repeat' (first | go_skip | go_guarded | go_step)
  all_goals first | (exfalso; simp_all; done) | skip
  go_ret3
  exact ⟨strip_of (x := []) (by rw [if_pos hk]) rfl rfl rfl, rfl⟩
theorem Below.setCells4 {B : Nat} {a w : World} {g : Nat} (h : Below B a w) (hg : B ≤ g) (x0 x1 x2 x3 : Value) : Below B a ((((w.setCell ⟨g, 0, none⟩ x0).setCell ⟨g, 1, none⟩ x1).setCell ⟨g, 2, none⟩ x2).setCell ⟨g, 3, none⟩ x3) :=
 (((h.setCell hg _).setCell hg _).setCell hg _).setCell hg _
theorem far4 {w w7 W0 : World} {g : Nat} (h0 : W0.heap.size = g + 1) (hw : w.heap.size ≤ g) (x0 x1 x2 x3 : Value) :
  (∀ p : Addr, Fresh W0 w7 p.block → ((((w7.setCell ⟨g, 0, none⟩ x0).setCell ⟨g, 1, none⟩ x1).setCell ⟨g, 2, none⟩ x2).setCell ⟨g, 3, none⟩ x3).cell? p = w7.cell? p) ∧
  (∀ b, Fresh W0 w7 b → Fresh w ((((w7.setCell ⟨g, 0, none⟩ x0).setCell ⟨g, 1, none⟩ x1).setCell ⟨g, 2, none⟩ x2).setCell ⟨g, 3, none⟩ x3) b) := by
 refine ⟨fun p hp => ?_, fun b hb => ⟨by have := hb.1; omega, by have := hb.2; simp [World.setCell]; omega⟩⟩
 have := hp.1
 rw [World.cell?_setCell_far _ _ _ _ (by dsimp only; omega), World.cell?_setCell_far _ _ _ _ (by dsimp only; omega), World.cell?_setCell_far _ _ _ _ (by dsimp only; omega), World.cell?_setCell_far _ _ _ _ (by dsimp only; omega)]
def RetList (w : World) (l : List UInt8) : Nat ⊕ (Flds × List UInt8) → Ending → World → Prop
 | .inl er, e, w' => (∃ k : Nat, k ≤ l.length ∧ e = .returned (.tuple #[.slice none 0 0, .int .i64 (k : Int), .int .i64 (er : Int)])) ∧ Below w.heap.size w w'
 | .inr (f, r), e, w' => ∃ A c cs, e = .returned (.tuple #[.slice A f.length c, .int .i64 ((l.length - r.length : Nat) : Int), .int .i64 0]) ∧ Own w w' 98 4 (.slice A f.length c) f.length cs ∧ RepP w' (Fresh w w') f cs
def RetTake (w : World) (l : List UInt8) : Nat ⊕ (FV × List UInt8) → Ending → World → Prop
 | .inl er, e, w' => Below w.heap.size w w' ∧ ∃ k x s A n c kk, e = .returned (.tuple #[.agg (fcells k x s A n c), .int .i64 kk, .int .i64 (er : Int)])
 | .inr (v, r'), e, w' => Below w.heap.size w w' ∧ IsInt v.1 ∧ IsInt v.2.1 ∧ ∃ A c csub, e = .returned (.tuple #[.agg (fcells v.1 v.2.1 v.2.2.1 A v.2.2.2.length c), .int .i64 ((l.length - r'.length : Nat) : Int), .int .i64 0]) ∧
  SeqK w' (Fresh w w') A v.2.2.2.length c csub ∧ RepP w' (Fresh w w') v.2.2.2 csub
def ListOK (F : Nat) : Prop :=
 ∀ (d q : Nat) (l : List UInt8) (A : Option Addr) (n c : Nat) (w : World) (B : Nat), q ≤ l.length → (l.drop q).length < F → l.length = n → n ≤ 1000000000 → n ≤ c → B ≤ w.heap.size → Seq w B 1 A n (l.map bv) → d ≤ 129 →
  Calls Tryz.prog 89 #[.slice A n c, .int .i64 (q : Int), .int .i64 (d : Int)] w (RetList w l (rd F d (l.drop q)))
theorem rtake_any (F : Nat) (hR : ListOK F) (d q : Nat) (l : List UInt8) (A : Option Addr) (n c : Nat) (w : World) (B : Nat) (hq : q ≤ l.length) (hF : (l.drop q).length ≤ F) (hl : l.length = n) (hm : n ≤ 1000000000) (hc : n ≤ c) (hB : B ≤ w.heap.size)
  (hs : Seq w B 1 A n (l.map bv)) (hd : d ≤ 129) :
  Calls Tryz.prog 130 #[.slice A n c, .int .i64 (q : Int), .int .i64 (d : Int)] w (RetTake w l (step (one (rd F (d + 1))) (decide (128 < d)) (l.drop q))) := by
 subst hl
 have HR := Lib.hid hR; clear hR
 unfold step
 by_cases hd1 : 128 < d
 ·rw [if_pos (by simpa using hd1)]
  go_enter Tryz.func130, Tryz.ntmps130
  repeat' (first | go_skip | go_guarded | go_step)
  refine bodyPost_ret (v := .tuple #[.agg #[.int .i64 0, .int .i64 0, .string ByteArray.empty, .slice none 0 0], .int .i64 ((q : Int)), .int .i64 13]) (by simp only [results, Tryz.results130]; go_simp; first | rfl | exact ⟨rfl, rfl⟩) rfl ?_
  exact ⟨(Below.refl _ _).alloc (Nat.le_refl _) _, _, _, _, _, _, _, _, rfl⟩
 ·rw [if_neg (by simpa using hd1)]
  by_cases hq1 : q = l.length
  ·have hq2 : (decide (l.length ≤ q)) = true := by simp; omega
   rw [List.drop_of_length_le (by omega)]
   go_enter Tryz.func130, Tryz.ntmps130
   repeat' (first | go_skip | go_guarded | go_step)
   refine bodyPost_ret (v := .tuple #[.agg #[.int .i64 0, .int .i64 0, .string ByteArray.empty, .slice none 0 0], .int .i64 ((q : Int)), .int .i64 4]) (by simp only [results, Tryz.results130]; go_simp; first | rfl | exact ⟨rfl, rfl⟩) rfl ?_
   exact ⟨(Below.refl _ _).alloc (Nat.le_refl _) _, _, _, _, _, _, _, _, rfl⟩
  ·have hq2 : (decide (l.length ≤ q)) = false := by simp; omega
   have hq3 : q < l.length := by omega
   obtain ⟨b, o, rfl, hbB, hcell⟩ := hs.2 (by omega)
   obtain ⟨x, hx⟩ : ∃ x, l[q]? = some x := ⟨l[q]'hq3, List.getElem?_eq_getElem hq3⟩
   have hcx0 := hcell q (bv x) (by simp [hx])
   have hbw : b < w.heap.size := by omega
   have hcx := fun ob => (((Below.refl w.heap.size w).alloc (Nat.le_refl _) ob).cell (p := ⟨b, o + q, none⟩) hbw).trans hcx0
   simp only [bv] at hcx
   clear hcell hcx0
   have hx256 : (x.toNat : Int) < 256 := by have := x.toNat_lt; omega
   have hdrop : l.drop q = x :: l.drop (q + 1) := by
    obtain ⟨_, he⟩ := List.getElem?_eq_some_iff.1 hx
    rw [List.drop_eq_getElem_cons hq3, he]
   clear hx hq1
   rw [hdrop] at hF
   rw [hdrop]
   clear hdrop
   dsimp only
   simp only [List.length_cons] at hF
   by_cases hx2 : 2 < x.toNat
   ·rw [if_pos hx2]
    go_enter Tryz.func130, Tryz.ntmps130
    have f7 : IntKind.i64.wrap (x.toNat : Int) = (x.toNat : Int) := IntWalk.i64_in _ (by omega)
    have hx3 : (2 : Int) < (x.toNat : Int) := by omega
    have f3 : IntKind.i64.wrap ((q : Int) + 1) = (q : Int) + 1 := IntWalk.i64_in _ (by omega)
    repeat' (first | go_skip | go_guarded | go_step)
    refine bodyPost_ret (v := .tuple #[.agg #[.int .i64 0, .int .i64 0, .string ByteArray.empty, .slice none 0 0], .int .i64 ((q : Int) + 1), .int .i64 5]) (by simp only [results, Tryz.results130]; go_simp; first | rfl | exact ⟨rfl, rfl⟩) rfl ?_
    exact ⟨(Below.refl _ _).alloc (Nat.le_refl _) _, _, _, _, _, _, _, _, rfl⟩
   ·rw [if_neg hx2]
    have hcut := Seq.cut hs (k := q + 1) (cap := c) (by omega) hc
    simp only [Nat.mul_one] at hcut
    rw [← List.map_drop] at hcut
    simp only [Option.map_some, Addr.add_lit] at hcut
    have f3 : IntKind.i64.wrap ((q : Int) + 1) = (q : Int) + 1 := IntWalk.i64_in _ (by omega)
    have f4 : ((q : Int) + 1).toNat = q + 1 := by omega
    have f7 : IntKind.i64.wrap (x.toNat : Int) = (x.toNat : Int) := IntWalk.i64_in _ (by omega)
    have f1 : (0 : Int) ≤ (q : Int) + 1 := by omega
    have f2 : (q : Int) + 1 ≤ (l.length : Int) := by omega
    have h3 : x.toNat = 0 ∨ x.toNat = 1 ∨ x.toNat = 2 := by omega
    unfold one
    rcases h3 with h | h | h
    ·rw [if_pos h]
     simp only [h] at hcx f7 hx256
     have hT := takeI_int (l.drop (q + 1))
     have hK : (takeI (l.drop (q + 1))).2.2 = 0 → (takeI (l.drop (q + 1))).2.1 ≤ (l.drop (q + 1)).length := fun h => (takeU_len (l := l.drop (q + 1)) h).2
     have C := fun w' (hb : Below w.heap.size w w') => rTakeInt_any _ _ (c - (q + 1)) (l.drop (q + 1)) w' B (by simp) (by omega) (hcut.below (hb.mono hB))
     generalize takeI (l.drop (q + 1)) = T at C hT hK ⊢
     obtain ⟨t1, t2, t3⟩ := T
     unfold itrip at C
     dsimp only at C hT hK ⊢
     replace C := Lib.hid C
     have HT := Lib.hid hT; clear hT
     have HK := Lib.hid hK; clear hK
     go_enter Tryz.func130, Tryz.ntmps130
     repeat' (first | go_skip | go_guarded | go_step)
     refine (C.out _ ((Below.refl _ _).alloc (Nat.le_refl _) _)).mono ?_
     rintro e w' ⟨rfl, rfl⟩
     dsimp only
     repeat' ((fail_if_success at_builtin); first | go_skip | go_guarded | go_step)
     have hb2 := fun ob => (Below.refl w.heap.size w).alloc (Nat.le_refl _) ob
     by_cases h0 : t3 = 0
     ·subst h0
      rw [if_neg (by simp)]
      have hk := HK.out rfl
      simp only [List.length_drop] at hk
      refine bodyPost_ret (v := .tuple #[.agg #[.int .i64 0, .int .i64 t1, .string ByteArray.empty, .slice none 0 0], .int .i64 (wrap64 ((q : Int) + 1 + (t2 : Int))), .int .i64 0]) (by simp only [results, Tryz.results130]; go_simp; first | rfl | exact ⟨rfl, rfl⟩) rfl ?_
      refine ⟨hb2 _, ⟨by omega, by omega⟩, HT.out, none, 0, [], ?_, ⟨SeqP.nil_, Nat.le_refl _⟩, rfl⟩
      rw [show wrap64 ((q : Int) + 1 + (t2 : Int)) = (q : Int) + 1 + (t2 : Int) from IntWalk.wrap64_in _ (by omega)]
      rw [List.length_drop, List.length_drop, show l.length - (l.length - (q + 1) - t2) = q + 1 + t2 from by omega]
      rfl
     ·rw [if_pos h0]
      refine bodyPost_ret (v := .tuple #[.agg #[.int .i64 0, .int .i64 t1, .string ByteArray.empty, .slice none 0 0], .int .i64 (wrap64 ((q : Int) + 1 + (t2 : Int))), .int .i64 (t3 : Int)]) (by simp only [results, Tryz.results130]; go_simp; first | rfl | exact ⟨rfl, rfl⟩) rfl ?_
      exact ⟨hb2 _, _, _, _, _, _, _, _, rfl⟩
    ·rw [if_neg (by omega), if_pos h]
     simp only [h] at hcx f7 hx256
     have hK : (takeS (l.drop (q + 1))).2.2 = 0 → (takeS (l.drop (q + 1))).2.1 ≤ (l.drop (q + 1)).length := fun h => (takeS_len (l := l.drop (q + 1)) h).2
     have C := fun w' (hb : Below w.heap.size w w') => rTakeStr_any _ _ (c - (q + 1)) (l.drop (q + 1)) w' B (by simp) (by omega) (by omega) (hcut.below (hb.mono hB))
     generalize takeS (l.drop (q + 1)) = T at C hK ⊢
     obtain ⟨t1, t2, t3⟩ := T
     unfold strip at C
     dsimp only at C hK ⊢
     generalize ByteArray.mk t1.toArray = st at C ⊢
     replace C := Lib.hid C
     have HK := Lib.hid hK; clear hK
     go_enter Tryz.func130, Tryz.ntmps130
     repeat' (first | go_skip | go_guarded | go_step)
     refine (C.out _ ((Below.refl _ _).alloc (Nat.le_refl _) _)).mono ?_
     rintro e w' ⟨rfl, rfl⟩
     dsimp only
     repeat' ((fail_if_success at_builtin); first | go_skip | go_guarded | go_step)
     have hb2 := fun ob => (Below.refl w.heap.size w).alloc (Nat.le_refl _) ob
     by_cases h0 : t3 = 0
     ·subst h0
      rw [if_neg (by simp)]
      have hk := HK.out rfl
      simp only [List.length_drop] at hk
      refine bodyPost_ret (v := .tuple #[.agg #[.int .i64 1, .int .i64 0, .string st, .slice none 0 0], .int .i64 (wrap64 ((q : Int) + 1 + (t2 : Int))), .int .i64 0]) (by simp only [results, Tryz.results130]; go_simp) rfl ?_
      refine ⟨hb2 _, ⟨by dsimp only; omega, by dsimp only; omega⟩, ⟨by dsimp only; omega, by dsimp only; omega⟩, none, 0, [], ?_, ⟨SeqP.nil_, Nat.le_refl _⟩, rfl⟩
      rw [show wrap64 ((q : Int) + 1 + (t2 : Int)) = (q : Int) + 1 + (t2 : Int) from IntWalk.wrap64_in _ (by omega)]
      rw [List.length_drop, List.length_drop, show l.length - (l.length - (q + 1) - t2) = q + 1 + t2 from by omega]
      rfl
     ·rw [if_pos h0]
      refine bodyPost_ret (v := .tuple #[.agg #[.int .i64 1, .int .i64 0, .string st, .slice none 0 0], .int .i64 (wrap64 ((q : Int) + 1 + (t2 : Int))), .int .i64 (t3 : Int)]) (by simp only [results, Tryz.results130]; go_simp) rfl ?_
      exact ⟨hb2 _, _, _, _, _, _, _, _, rfl⟩
    ·rw [if_neg (by omega), if_neg (by omega)]
     simp only [h] at hcx f7 hx256
     have f5 : IntKind.i64.wrap ((d : Int) + 1) = (d : Int) + 1 := IntWalk.i64_in _ (by omega)
     have C := fun w' (hb : Below w.heap.size w w') => HR.out (d + 1) (q + 1) l _ _ c w' B (by omega) (by omega) rfl hm hc (Nat.le_trans hB hb.size) (hs.below (hb.mono hB)) (by omega)
     have hG := rd_good F (d + 1) (l.drop (q + 1)) (by omega)
     generalize rd F (d + 1) (l.drop (q + 1)) = T at C hG ⊢
     replace C := Lib.hid C
     go_enter Tryz.func130, Tryz.ntmps130
     repeat' ((fail_if_success at_builtin); first | go_skip | go_guarded | go_step)
     have hb2 := fun o1 => (Below.refl w.heap.size w).alloc (Nat.le_refl _) o1
     refine (C.out _ (hb2 _)).mono ?_
     cases T with
     | inl er =>
      rintro e w' ⟨⟨k9, hk9, rfl⟩, hb⟩
      have hw : w.heap.size < w'.heap.size := by have := hb.size; simp at this; omega
      obtain ⟨hc1, hf1⟩ := bcell hb
      have q0 : w'.cell? ⟨w.heap.size, 0, none⟩ = some (.int .i64 0) := by rw [hc1 _ _ (by simp)]; simp [go_sem]
      have q1 : w'.cell? ⟨w.heap.size, 1, none⟩ = some (.int .i64 0) := by rw [hc1 _ _ (by simp)]; simp [go_sem]
      have q2 : w'.cell? ⟨w.heap.size, 2, none⟩ = some (.string ⟨#[]⟩) := by rw [hc1 _ _ (by simp)]; simp [go_sem]
      have q3 : w'.cell? ⟨w.heap.size, 3, none⟩ = some (.slice none 0 0) := by rw [hc1 _ _ (by simp)]; simp [go_sem]
      have z0 : ∀ j, w'.frozen? ⟨w.heap.size, j, none⟩ = false := fun j => by rw [hf1 _ _ (by simp)]; simp [go_sem]
      clear hc1 hf1
      have hb9 := (hb2 _).trans (hb.mono (hb2 _).size)
      dsimp only
      repeat' ((fail_if_success at_builtin); first | go_skip | go_guarded | go_step)
      dsimp only
      refine bodyPost_ret (v := .tuple #[.agg #[.int .i64 2, .int .i64 0, .string ByteArray.empty, .slice none 0 0], .int .i64 (k9 : Int), .int .i64 (er : Int)]) (by simp only [results, Tryz.results130]; go_simp; first | rfl | exact ⟨rfl, rfl⟩) rfl ?_
      exact ⟨Below.setCells4 hb9 (by simp) _ _ _ _, _, _, _, _, _, _, _, rfl⟩
     | inr p =>
      obtain ⟨f, r⟩ := p
      rintro e w' ⟨A3, c3, cs3, rfl, hown, hrep⟩
      have hb := hown.2
      have hw : w.heap.size < w'.heap.size := by have := hb.size; simp at this; omega
      obtain ⟨hc1, hf1⟩ := bcell hb
      have q0 : w'.cell? ⟨w.heap.size, 0, none⟩ = some (.int .i64 0) := by rw [hc1 _ _ (by simp)]; simp [go_sem]
      have q1 : w'.cell? ⟨w.heap.size, 1, none⟩ = some (.int .i64 0) := by rw [hc1 _ _ (by simp)]; simp [go_sem]
      have q2 : w'.cell? ⟨w.heap.size, 2, none⟩ = some (.string ⟨#[]⟩) := by rw [hc1 _ _ (by simp)]; simp [go_sem]
      have q3 : w'.cell? ⟨w.heap.size, 3, none⟩ = some (.slice none 0 0) := by rw [hc1 _ _ (by simp)]; simp [go_sem]
      have z0 : ∀ j, w'.frozen? ⟨w.heap.size, j, none⟩ = false := fun j => by rw [hf1 _ _ (by simp)]; simp [go_sem]
      clear hc1 hf1
      have hb9 := (hb2 _).trans (hb.mono (hb2 _).size)
      have hseq3 := hown.seqK
      have Hown := Lib.hid hown; clear hown
      have Hrep := Lib.hid hrep; clear hrep
      have Hseq := Lib.hid hseq3; clear hseq3
      dsimp only
      repeat' ((fail_if_success at_builtin); first | go_skip | go_guarded | go_step)
      dsimp only
      refine bodyPost_ret (v := .tuple #[.agg #[.int .i64 2, .int .i64 0, .string ByteArray.empty, .slice A3 f.length c3], .int .i64 ((l.length - r.length : Nat) : Int), .int .i64 0]) (by simp only [results, Tryz.results130]; go_simp; first | rfl | exact ⟨rfl, rfl⟩) rfl ?_
      obtain ⟨g1, g2⟩ := far4 (w := w) (w7 := w') (W0 := w.alloc (.cells #[.int .i64 0, .int .i64 0, .string ⟨#[]⟩, .slice none 0 0] 98)) (g := w.heap.size) (by simp) (by omega) (.int .i64 2) (.int .i64 0) (.string ⟨#[]⟩) (.slice A3 f.length c3)
      exact ⟨Below.setCells4 hb9 (by omega) _ _ _ _, ⟨by dsimp only; omega, by dsimp only; omega⟩, ⟨by dsimp only; omega, by dsimp only; omega⟩, A3, c3, cs3, rfl, Hseq.out.map g1 g2, RepP.map g1 g2 Hrep.out⟩
theorem rlist_body (F : Nat) (hR : ListOK F) : ListOK (F + 1) := by
 intro d q0 l A n c w B hq0 hF hl hm hc hB hs hd
 subst hl
 have HR := Lib.hid hR; clear hR
 by_cases hnil : l.length = 0
 ·have : l = [] := List.length_eq_zero_iff.1 hnil
  subst this
  have : q0 = 0 := by simpa using hq0
  subst this
  have C := fun A' c' => rTakeUint_any A' 0 c' [] w B rfl (by omega) (SeqP.empty A')
  rw [show takeU [] = (0, 0, 4) from rfl] at C
  unfold trip at C
  dsimp only at C
  have hr : rd (F + 1) d (List.drop 0 []) = .inl 4 := rfl
  rw [hr]
  replace C := Lib.hid C
  simp only [List.length_nil] at *
  go_enter Tryz.func89, Tryz.ntmps89
  repeat' (first | go_skip | go_guarded | go_step)
  refine (C.out _ _).mono ?_
  rintro e w' ⟨rfl, rfl⟩
  dsimp only
  repeat' (first | go_skip | go_guarded | go_step)
  go_ret3
  exact ⟨⟨0, by omega, rfl⟩, Below.refl _ _⟩
 obtain ⟨b, o, rfl, hbB, _⟩ := hs.2 (by omega)
 have hcut := Seq.cut hs (k := q0) (cap := c) (by omega) hc
 simp only [Nat.mul_one] at hcut
 rw [← List.map_drop] at hcut
 simp only [Option.map_some, Addr.add_lit] at hcut
 unfold rd
 have hT := takeU_lt (l.drop q0)
 have hK := @takeU_len (l.drop q0)
 have C := rTakeUint_any _ _ (c - q0) (l.drop q0) w B (by simp) (by omega) hcut
 generalize takeU (l.drop q0) = T at hT hK C ⊢
 obtain ⟨N, k, e⟩ := T
 unfold trip at C
 dsimp only at hT hK C ⊢
 have HT := Lib.hid hT; clear hT
 have HK := Lib.hid hK; clear hK
 replace C := Lib.hid C
 have f1 : (0 : Int) ≤ (q0 : Int) := by omega
 have f2 : (q0 : Int) ≤ (l.length : Int) := by omega
 by_cases h0 : e = 0
 ·subst h0
  simp only [Int.natCast_zero] at C
  have hk := HK.out rfl
  simp only [List.length_drop] at hk
  replace C := C.out
  rw [if_neg (by omega)] at C
  replace C := Lib.hid C
  rw [if_neg (by simp)]
  have f3 : IntKind.i64.wrap ((q0 : Int) + (k : Int)) = (q0 : Int) + (k : Int) := IntWalk.i64_in _ (by omega)
  rw [List.drop_drop]
  generalize hM : many (one (rd F (d + 1))) (decide (128 < d)) N (l.drop (q0 + k)) = M
  have HM := Lib.hid hM; clear hM
  go_enter Tryz.func89, Tryz.ntmps89
  repeat' (first | go_skip | go_guarded | go_step)
  refine C.out.mono ?_
  rintro e w' ⟨rfl, rfl⟩
  dsimp only
  repeat' (first | go_skip | go_guarded | go_step)
  go_loopw [1, 12, 13] (fun u1 u12 u13 wr => ∃ (i q : Nat) (f : Flds) (cs : List Value), i ≤ N ∧ u13 = .int .u64 (i : Int) ∧ u1 = .int .i64 (q : Int) ∧ q ≤ l.length ∧ q0 + 1 ≤ q ∧ i ≤ q ∧ f.length = i ∧
    Own w wr 98 4 u12 f.length cs ∧ RepP wr (Kept w wr u12) f cs ∧ ahead f (many (one (rd F (d + 1))) (decide (128 < d)) (N - i) (l.drop q)) = M) (fun u1 _ _ _ => l.length - (intOf u1).toNat)
  case atStart => exact ⟨0, q0 + k, .nil, [], by omega, rfl, rfl, by omega, by omega, by omega, rfl, Own.nil_ _ _ _, rfl, by rw [Nat.sub_zero, HM.out]; cases M <;> rfl⟩
  case round =>
   obtain ⟨i, q, f, cs, hi, rfl, rfl, hq, hq1, hiq, hfi, hown, hrep, hah⟩ := hrel
   have Hown := Lib.hid hown; clear hown
   have Hrep := Lib.hid hrep; clear hrep
   have Hah := Lib.hid hah; clear hah
   have hbr := Hown.out.2
   clear f1 f2 f3
   by_cases hlt : i < N
   ·have hN : N - i = (N - i - 1) + 1 := by omega
    have HN := Lib.hid hN; clear hN
    have C1 := fun (w2 : World) (hb2 : Below w.heap.size w w2) => rtake_any F HR.out d q l _ _ c w2 B hq (by simp at hF ⊢; omega) rfl hm hc (Nat.le_trans hB hb2.size) (hs.below (hb2.mono hB)) hd
    replace C1 := Lib.hid C1
    have hG := step_good (o := one (rd F (d + 1))) (deep := decide (128 < d)) (l := l.drop q) (fun x r hr => one_good (rd_good F (d + 1) r (by simp at hr hF ⊢; omega)))
    generalize hst : step (one (rd F (d + 1))) (decide (128 < d)) (l.drop q) = T1 at C1 hG
    replace hst := Lib.hid hst
    replace hG := Lib.hid hG
    repeat' (first | go_skip | go_guarded | go_step)
    refine (C1.out _ hbr).mono ?_
    cases T1 with
    | inl er =>
     rintro e w7 ⟨hb7, k9, x9, s9, A9, n9, c9, kk9, rfl⟩
     have he : ((er : Int) != 0) = true := by have := hG.out.1; simpa using this
     dsimp only
     repeat' (first | go_skip | go_guarded | go_step)
     go_ret3
     have := Hah.out
     rw [HN.out, many_stop (e := er) hst.out] at this
     rw [← this]
     exact ⟨⟨q, hq, rfl⟩, Below.box (hbr.trans (hb7.mono hbr.size)) (Nat.le_refl _) _⟩
    | inr p =>
     obtain ⟨v, r⟩ := p
     obtain ⟨k9, hk1, hk2, rfl⟩ := hG.out
     simp only [List.length_drop] at hk2
     have hkk : (l.length - (List.drop k9 (List.drop q l)).length : Nat) = q + k9 := by simp only [List.length_drop]; omega
     rintro e w7 ⟨hb7, hi1, hi2, A9, c9, cs9, rfl, hs9, hr9⟩
     rw [hkk]
     clear hkk
     have hbx := Below.box hb7 (Nat.le_refl _) (.cells (fcells v.1 v.2.1 v.2.2.1 A9 v.2.2.2.length c9) 98)
     have g1 : ∀ p : Addr, Fresh wr w7 p.block → (w7.alloc (.cells (fcells v.1 v.2.1 v.2.2.1 A9 v.2.2.2.length c9) 98)).cell? p = w7.cell? p := fun p hp => ((Below.refl w7.heap.size w7).alloc (Nat.le_refl _) _).cell hp.2
     have g2 : ∀ b, Fresh wr w7 b → Fresh wr (w7.alloc (.cells (fcells v.1 v.2.1 v.2.2.1 A9 v.2.2.2.length c9) 98)) b := fun b hb => ⟨hb.1, by have := hb.2; simp; omega⟩
     have Hs9 := Lib.hid (hs9.map g1 g2); clear hs9
     have Hr9 := Lib.hid (RepP.map g1 g2 hr9); clear hr9
     clear g1 g2
     have hown := Hown.out.below hbx
     have Hbx := Lib.hid hbx; clear hbx
     dsimp only
     repeat' ((fail_if_success at_builtin); first | go_skip | go_guarded | go_step)
     refine wp_app1 hown Tryz.underlying79 fld_info (by omega) ?_
     intro v1 w9 hown9 hg9
     have hks := kept_step Hown.out Hbx.out hg9
     clear hown
     have f3 : IntKind.u64.wrap ((i : Int) + 1) = (i : Int) + 1 := IntWalk.u64_in _ (by have := HT.out; omega)
     have Hown9 := Lib.hid hown9; clear hown9
     have Hks := Lib.hid hks; clear hks
     clear hg9
     repeat' (first | go_skip | go_guarded | go_step)
     go_roundw
     case rel =>
      refine ⟨i + 1, q + k9, f.append (.cons v.1 v.2.1 v.2.2.1 v.2.2.2 .nil), cs ++ [.int .i64 v.1, .int .i64 v.2.1, .string v.2.2.1, .slice A9 v.2.2.2.length c9], by omega, by congr 1, rfl, by omega, by omega, by omega, by rw [Flds.append_length]; simp [Flds.length]; omega, ?_, ?_, ?_⟩
      ·rw [Flds.append_length]; exact Hown9.out
      ·exact RepP.append (RepP.map Hks.out.1 Hks.out.2.1 Hrep.out) ⟨A9, c9, [], cs9, rfl, hi1, hi2, Hs9.out.map Hks.out.2.2.1 Hks.out.2.2.2, RepP.map Hks.out.2.2.1 Hks.out.2.2.2 Hr9.out, rfl⟩
      ·have := Hah.out
       rw [HN.out, many_step hst.out] at this
       rw [show N - (i + 1) = N - i - 1 from by omega, ← List.drop_drop]
       exact this
     case measure => simp [intOf]; omega
   ·have hN : i = N := by omega
    have HN := Lib.hid hN; clear hN
    repeat' (first | go_skip | go_guarded | go_step)
    go_ret3
    obtain ⟨A9, c9, rfl⟩ := Hown.out.slice_form
    have := Hah.out
    rw [HN.out, Nat.sub_self] at this
    simp only [many, ahead, append_nil] at this
    rw [← this]
    refine ⟨A9, c9, cs, ?_, Hown.out, Hrep.out.imp fun b hb => hb.1⟩
    rw [List.length_drop, show l.length - (l.length - q) = q from by omega]
    rfl
 ·have h0' : ((e : Int) != 0) = true := by simp; omega
  rw [if_pos h0]
  go_enter Tryz.func89, Tryz.ntmps89
  repeat' (first | go_skip | go_guarded | go_step)
  refine C.out.mono ?_
  rintro e w' ⟨rfl, rfl⟩
  dsimp only
  repeat' (first | go_skip | go_guarded | go_step)
  go_ret3
  exact ⟨⟨q0, hq0, rfl⟩, Below.refl _ _⟩
theorem rlist_all : ∀ F, ListOK F
 | 0 => fun d q l A n c w B hq hF => by omega
 | F + 1 => rlist_body F (rlist_all F)
theorem rfields_any (l : List UInt8) (A : Option Addr) (n c : Nat) (w : World) (B : Nat) (hl : l.length = n) (hm : n ≤ 1000000000) (hc : n ≤ c) (hB : B ≤ w.heap.size) (hs : Seq w B 1 A n (l.map bv)) :
  Calls Tryz.prog 37 #[.slice A n c] w (RetFields w (fieldsS l)) := by
 subst hl
 have C := rlist_all (l.length + 1) 1 0 l A _ c w B (by omega) (by simp) rfl hm hc hB hs (by omega)
 have hG := rd_good (l.length + 1) 1 l (by omega)
 rw [List.drop_zero] at C
 unfold fieldsS
 generalize rd (l.length + 1) 1 l = T at C hG ⊢
 replace C := Lib.hid C
 cases T with
 | inl er =>
  have he : ((er : Int) != 0) = true := by have := hG.1; simpa using this
  go_enter Tryz.func37, Tryz.ntmps37
  repeat' (first | go_skip | go_guarded | go_step)
  refine C.out.mono ?_
  rintro e w' ⟨⟨k9, hk9, rfl⟩, hb⟩
  dsimp only
  repeat' (first | go_skip | go_guarded | go_step)
  go_ret2
  exact ⟨rfl, hb⟩
 | inr p =>
  obtain ⟨f, r⟩ := p
  obtain ⟨k, hk1, hk2, rfl⟩ := hG
  dsimp only
  have hkk : (l.length - (l.drop k).length : Nat) = k := by simp only [List.length_drop]; omega
  replace hkk := Lib.hid hkk
  by_cases hz : k < l.length
  ·have hz1 : (l.drop k).length ≠ 0 := by simp only [List.length_drop]; omega
   rw [if_pos hz1]
   clear hz1
   go_enter Tryz.func37, Tryz.ntmps37
   repeat' (first | go_skip | go_guarded | go_step)
   refine C.out.mono ?_
   rintro e w' ⟨A3, c3, cs3, rfl, hown, hrep⟩
   rw [hkk.out]
   have Hown := Lib.hid hown; clear hown
   have Hrep := Lib.hid hrep; clear hrep
   dsimp only
   have hzz : ((k : Int) < (l.length : Int)) := by omega
   repeat' (first | go_skip | go_guarded | go_step)
   go_ret2
   exact ⟨rfl, Hown.out.2⟩
  ·have hz1 : ¬ (l.drop k).length ≠ 0 := by simp only [List.length_drop]; omega
   rw [if_neg hz1]
   clear hz1
   go_enter Tryz.func37, Tryz.ntmps37
   repeat' (first | go_skip | go_guarded | go_step)
   refine C.out.mono ?_
   rintro e w' ⟨A3, c3, cs3, rfl, hown, hrep⟩
   rw [hkk.out]
   have Hown := Lib.hid hown; clear hown
   have Hrep := Lib.hid hrep; clear hrep
   dsimp only
   have hzz : ¬ ((k : Int) < (l.length : Int)) := by omega
   repeat' (first | go_skip | go_guarded | go_step)
   go_ret2
   exact ⟨A3, c3, cs3, rfl, Hown.out, Hrep.out⟩
end Go.Proofs.YtgdapkglofchjaaGreatDoor
namespace Go.Proofs.YtgdapkglofchjaaGreatDoor
namespace VT
def Ok : VT → Prop
 | base k => k ≤ 7 ∧ k ≠ 5 ∧ k ≠ 6
 | of k e => (k = 5 ∨ k = 6) ∧ e.Ok
end VT
end Go.Proofs.YtgdapkglofchjaaGreatDoor
namespace Go.Proofs.YtgdapkglofchjaaGreatDoor
open Go.RowKit
theorem dec_back {l : List UInt8} {fs : List FV} (h : DecR l (.inr fs)) : encF fs = l ∧ validF fs = 0 ∧ lsz fs ≤ l.length := by
 rcases h with ⟨e, _, h⟩ | ⟨f, h1, ⟨_, h⟩ | ⟨_, _, h⟩ | ⟨_, hv, h⟩⟩
 ·cases h
 ·cases h
 ·cases h
 ·injection h with h
  subst h
  obtain ⟨a, b⟩ := fields_back h1
  refine ⟨?_, hv, by unfold lsz; rw [ofL_toL]; exact fieldsS_small h1⟩
  unfold encF recF
  rw [if_pos hv, ofL_toL, fix_of_fine _ _ b, a]
structure BK (w : World) (g : Nat) (b : Bool) : Prop where
 lt : g < w.heap.size
 c : w.cell? ⟨g, 0, none⟩ = some (.bool b)
 fr : ∀ j, w.frozen? ⟨g, j, none⟩ = false
abbrev GB (w w' : World) (g : Nat) : Prop := w.grownBy w' (some g)
abbrev NG (w : World) (g : Nat) : Nat → Prop := fun x => x < w.heap.size ∧ x ≠ g
theorem GB.cell {w w' : World} {g : Nat} (h : GB w w' g) {p : Addr} (h1 : p.block < w.heap.size) (h2 : p.block ≠ g) : w'.cell? p = w.cell? p := World.cell?_of_block (h.block p.block h1 (fun e => h2 (by injection e)))
theorem GB.below {w w' : World} {g B : Nat} (h : GB w w' g) (h1 : B ≤ g) (h2 : B ≤ w.heap.size) : Below B w w' := ⟨h.os, h.tape, h.output, h.size, fun k hk => h.block k (by omega) (fun e => by injection e; omega)⟩
theorem GB.of {w w' : World} {g : Nat} (h : Below w.heap.size w w') : GB w w' g := growBelow h
theorem BK.below {w w' : World} {g : Nat} {b : Bool} (h : BK w g b) (hb : Below w.heap.size w w') : BK w' g b := ⟨Nat.lt_of_lt_of_le h.lt hb.size, (hb.cell (p := ⟨g, 0, none⟩) h.lt).trans h.c, fun j => (World.frozen?_of_block (a := ⟨g, j, none⟩) (hb.block g h.lt)).trans (h.fr j)⟩
theorem BK.set {w : World} {g : Nat} {b : Bool} (h : BK w g b) (v : Bool) : BK (w.setCell ⟨g, 0, none⟩ (.bool v)) g v :=
 ⟨by rw [World.size_setCell]; exact h.lt, World.cell?_setCell_same w ⟨g, 0, none⟩ _ h.c, fun j => by rw [World.frozen?_setCell]; exact h.fr j⟩
theorem rF_form {w : World} {S : Nat → Prop} {f : FV} {cs : List Value} (h : rF w S f cs) : ∃ A c, cs = fC f A c := by
 obtain ⟨A, c, csub, rfl, _⟩ := h
 exact ⟨A, c, rfl⟩
theorem rF_gb {w w' : World} {g : Nat} {f : FV} {cs : List Value} (h : rF w (NG w g) f cs) (hb : GB w w' g) : rF w' (NG w' g) f cs := rF_ok _ _ _ _ _ _ (fun p hp => hb.cell hp.1 hp.2) (fun b hp => ⟨Nat.lt_of_lt_of_le hp.1 hb.size, hp.2⟩) h
theorem store_true {w w1 : World} {g : Nat} {b : Bool} (h : BK w g b) (hb : Below w.heap.size w w1) : BK (w1.setCell ⟨g, 0, none⟩ (.bool true)) g true ∧ GB w (w1.setCell ⟨g, 0, none⟩ (.bool true)) g :=
 ⟨(h.below hb).set true, (GB.of hb).trans (setCell_grown w1 g 0 (.bool true))⟩
theorem bnum_any (w : World) (g : Nat) (b : Bool) (f : FV) (A : Option Addr) (c : Nat) (h : BK w g b) : Calls Tryz.prog 40 #[.pointer (some ⟨g, 0, none⟩), .agg (fC f A c).toArray] w fun e w' => e = .returned (.int .i64 f.2.1) ∧ BK w' g (b || !(f.1 == 0)) ∧ GB w w' g := by
 obtain ⟨k, x, s, sub⟩ := f
 go_enter Tryz.func40, Tryz.ntmps40
 go_upto_region 1 with (fail)
 generalize hx_ : World.alloc w _ = w1
 have hO := own_new hx_
 have hb := hO.below
 clear hx_
 have c0 := hO.c 0 0
 have c1 := hO.c 0 1
 have h1 := h.below hb
 have hg := h1.c
 have hf := h1.fr
 have hne : w.heap.size ≠ g := by have := h.lt; omega
 by_cases hk : k = 0
 ·have z0 : (k == 0) = true := by simpa using hk
  have z1 : (k != 0) = false := by simp [hk]
  subst hk
  repeat' (first | go_skip | go_guarded | go_step)
  go_ret
  exact ⟨rfl, by simpa using h1, GB.of hb⟩
 ·have z0 : (k == 0) = false := by simpa using hk
  have z1 : (k != 0) = true := by simpa using hk
  obtain ⟨h2, h3⟩ := store_true h hb
  have c1' : (w1.setCell ⟨g, 0, none⟩ (.bool true)).cell? ⟨w.heap.size, 1, none⟩ = some (.int .i64 x) := (World.cell?_setCell_other w1 _ _ _ (by intro e; injection e with e; exact hne e.symm)).trans c1
  repeat' (first | go_skip | go_guarded | go_step)
  go_ret
  refine ⟨rfl, ?_, h3⟩
  simp only [z0, Bool.not_false, Bool.or_true]
  exact h2
theorem bstr_any (w : World) (g : Nat) (b : Bool) (f : FV) (A : Option Addr) (c : Nat) (h : BK w g b) : Calls Tryz.prog 41 #[.pointer (some ⟨g, 0, none⟩), .agg (fC f A c).toArray] w fun e w' => e = .returned (.string f.2.2.1) ∧ BK w' g (b || !(f.1 == 1)) ∧ GB w w' g := by
 obtain ⟨k, x, s, sub⟩ := f
 go_enter Tryz.func41, Tryz.ntmps41
 go_upto_region 1 with (fail)
 generalize hx_ : World.alloc w _ = w1
 have hO := own_new hx_
 have hb := hO.below
 clear hx_
 have c0 := hO.c 0 0
 have c1 := hO.c 0 2
 have h1 := h.below hb
 have hg := h1.c
 have hf := h1.fr
 have hne : w.heap.size ≠ g := by have := h.lt; omega
 by_cases hk : k = 1
 ·have z0 : (k == 1) = true := by simpa using hk
  have z1 : (k != 1) = false := by simp [hk]
  subst hk
  repeat' (first | go_skip | go_guarded | go_step)
  go_ret
  exact ⟨rfl, by simpa using h1, GB.of hb⟩
 ·have z0 : (k == 1) = false := by simpa using hk
  have z1 : (k != 1) = true := by simpa using hk
  obtain ⟨h2, h3⟩ := store_true h hb
  have c1' : (w1.setCell ⟨g, 0, none⟩ (.bool true)).cell? ⟨w.heap.size, 2, none⟩ = some (.string s) := (World.cell?_setCell_other w1 _ _ _ (by intro e; injection e with e; exact hne e.symm)).trans c1
  repeat' (first | go_skip | go_guarded | go_step)
  go_ret
  refine ⟨rfl, ?_, h3⟩
  simp only [z0, Bool.not_false, Bool.or_true]
  exact h2
theorem bseq_any (w : World) (g : Nat) (b : Bool) (f : FV) (A : Option Addr) (c : Nat) (h : BK w g b) : Calls Tryz.prog 90 #[.pointer (some ⟨g, 0, none⟩), .agg (fC f A c).toArray] w fun e w' => e = .returned (.slice A f.2.2.2.length c) ∧ BK w' g (b || !(f.1 == 2)) ∧ GB w w' g := by
 obtain ⟨k, x, s, sub⟩ := f
 go_enter Tryz.func90, Tryz.ntmps90
 go_upto_region 1 with (fail)
 generalize hx_ : World.alloc w _ = w1
 have hO := own_new hx_
 have hb := hO.below
 clear hx_
 have c0 := hO.c 0 0
 have c1 := hO.c 0 3
 have h1 := h.below hb
 have hg := h1.c
 have hf := h1.fr
 have hne : w.heap.size ≠ g := by have := h.lt; omega
 by_cases hk : k = 2
 ·have z0 : (k == 2) = true := by simpa using hk
  have z1 : (k != 2) = false := by simp [hk]
  subst hk
  repeat' (first | go_skip | go_guarded | go_step)
  go_ret
  exact ⟨rfl, by simpa using h1, GB.of hb⟩
 ·have z0 : (k == 2) = false := by simpa using hk
  have z1 : (k != 2) = true := by simpa using hk
  obtain ⟨h2, h3⟩ := store_true h hb
  have c1' : (w1.setCell ⟨g, 0, none⟩ (.bool true)).cell? ⟨w.heap.size, 3, none⟩ = some (.slice A sub.length c) := (World.cell?_setCell_other w1 _ _ _ (by intro e; injection e with e; exact hne e.symm)).trans c1
  repeat' (first | go_skip | go_guarded | go_step)
  go_ret
  refine ⟨rfl, ?_, h3⟩
  simp only [z0, Bool.not_false, Bool.or_true]
  exact h2
theorem bflag_any (w : World) (g : Nat) (b : Bool) (f : FV) (A : Option Addr) (c : Nat) (h : BK w g b) : Calls Tryz.prog 91 #[.pointer (some ⟨g, 0, none⟩), .agg (fC f A c).toArray] w fun e w' => e = .returned (.bool (f.2.1 == 1)) ∧ BK w' g (b || !(f.1 == 0 && (f.2.1 == 0 || f.2.1 == 1))) ∧ GB w w' g := by
 obtain ⟨k, n, s, sub⟩ := f
 go_enter Tryz.func91, Tryz.ntmps91
 go_upto_region 1 with (fail)
 generalize hx_ : World.alloc w _ = w1
 have hO : OwnB w w1 [(w.heap.size, fC (k, n, s, sub) A c)] := by rw [← hx_]; exact (OwnB.refl w).new (fC (k, n, s, sub) A c).toArray _ (g := w.heap.size)
 have hb := hO.below
 clear hx_
 have c0 := hO.c 0 0
 have c1 := hO.c 0 1
 have c2 := hO.c 0 2
 have c3 := hO.c 0 3
 have h1 := h.below hb
 repeat' (first | go_skip | go_guarded | go_step)
 refine (bnum_any w1 g b (k, n, s, sub) A c h1).mono ?_
 rintro e w2 ⟨rfl, h2, hg2⟩
 dsimp only
 have hg := h2.c
 have hf := h2.fr
 have hgb := (GB.of hb).trans hg2
 obtain ⟨h3, h4⟩ := store_true h2 (Below.refl _ _)
 by_cases hn0 : n = 0
 ·have z0 : (n == 0) = true := by simpa using hn0
  have z1 : (n != 0) = false := by simp [hn0]
  subst hn0
  repeat' (first | go_skip | go_guarded | go_step)
  go_ret
  exact ⟨rfl, by simpa using h2, hgb⟩
 ·have z0 : (n == 0) = false := by simpa using hn0
  have z1 : (n != 0) = true := by simpa using hn0
  by_cases hn1 : n = 1
  ·have z2 : (n == 1) = true := by simpa using hn1
   have z3 : (n != 1) = false := by simp [hn1]
   subst hn1
   repeat' (first | go_skip | go_guarded | go_step)
   go_ret
   exact ⟨rfl, by simpa using h2, hgb⟩
  ·have z2 : (n == 1) = false := by simpa using hn1
   have z3 : (n != 1) = true := by simpa using hn1
   repeat' (first | go_skip | go_guarded | go_step)
   go_ret
   refine ⟨by show _ = Ending.returned (.bool (n == 1)); rw [z2]; rfl, ?_, hgb.trans h4⟩
   simp only [z0, z2, Bool.or_false, Bool.and_false, Bool.not_false, Bool.or_true]
   exact h3
def Cl1 (f : FV) : Prop := (∃ x, f = fI x) ∨ (∃ s, f = fS s) ∨ (∃ m, f = fL m ∧ Cln m)
theorem cln_mem : ∀ {l : List FV}, Cln l → ∀ f ∈ l, Cl1 f
 | [], _, _, h => by cases h
 | g :: l, h, f, hf => by
  obtain ⟨h1, h2⟩ := h.head
  rcases List.mem_cons.1 hf with rfl | hf
  ·exact h1
  ·exact cln_mem h2 f hf
abbrev zc : List Value := [.int .i64 0, .int .i64 0, .string ⟨#[]⟩, .slice none 0 0]
def zcs : Nat → List Value
 | 0 => []
 | n + 1 => zcs n ++ zc
theorem zcs_rd {w : World} {S : Nat → Prop} : ∀ n, RList rF 4 w S (List.replicate n (fI 0)) (zcs n)
 | 0 => rfl
 | n + 1 => by
  rw [List.replicate_succ']
  exact (zcs_rd n).append (RList.one ⟨none, 0, [], rfl, ⟨by decide, by decide⟩, ⟨by decide, by decide⟩, ⟨SeqP.nil_, Nat.le_refl _⟩, rfl⟩ rfl)
theorem cln_zeros : ∀ n, Cln (List.replicate n (fI 0))
 | 0 => trivial
 | n + 1 => ⟨Or.inl ⟨rfl, rfl, rfl⟩, trivial, cln_zeros n⟩
theorem parts_of {w : World} {S : Nat → Prop} {f : FV} {A : Option Addr} {c : Nat} (h : rF w S f (fC f A c)) : FSl w S A c (toL f.2.2.2) := by
 obtain ⟨A', c', csub, he, _, _, hk, hr⟩ := h
 injection he with _ he
 injection he with _ he
 injection he with _ he
 injection he with he _
 injection he with e1 e2 e3
 subst e1 e3
 exact ⟨by rw [toL_length]; exact hk.2, csub, by rw [toL_length]; exact hk.1, of_rep hr⟩
theorem cl1_list {f : FV} (h : Cl1 f) : Cln (toL f.2.2.2) := by
 rcases h with ⟨x, rfl⟩ | ⟨s, rfl⟩ | ⟨m, rfl, h⟩
 ·trivial
 ·trivial
 ·show Cln (toL (ofL m))
  rw [toL_ofL]
  exact h
theorem fsl_gb {w w' : World} {g c : Nat} {A : Option Addr} {l : List FV} (h : FSl w (NG w g) A c l) (hb : GB w w' g) : FSl w' (NG w' g) A c l := by
 obtain ⟨h1, cs, h2, h3⟩ := h
 exact ⟨h1, cs, h2.map (fun p hp => hb.cell hp.1 hp.2) (fun b hp => ⟨Nat.lt_of_lt_of_le hp.1 hb.size, hp.2⟩), RList.map (fun x c hc => rF_ok _ _ _ _ x c (fun p hp => hb.cell hp.1 hp.2) (fun b hp => ⟨Nat.lt_of_lt_of_le hp.1 hb.size, hp.2⟩) hc) h3⟩
theorem fsl_lim {w w' : World} {lim g c : Nat} {A : Option Addr} {l : List FV} (hl : lim ≤ w.heap.size) (h : FSl w (fun x => x < lim ∧ x ≠ g) A c l) (hb : GB w w' g) : FSl w' (fun x => (x < lim ∨ w.heap.size ≤ x) ∧ x < w'.heap.size ∧ x ≠ g) A c l := by
 have hs := hb.size
 obtain ⟨h1, cs, h2, h3⟩ := h
 exact ⟨h1, cs, h2.map (fun p hp => hb.cell (by have := hp.1; omega) hp.2) (fun b hp => ⟨Or.inl hp.1, by have := hp.1; omega, hp.2⟩), RList.map (fun x c hc => rF_ok _ _ _ _ x c (fun p hp => hb.cell (by have := hp.1; omega) hp.2) (fun b hp => ⟨Or.inl hp.1, by have := hp.1; omega, hp.2⟩) hc) h3⟩
def PartsR (lim : Nat) (w w' : World) (g : Nat) (b : Bool) (f : FV) (many : Nat) (l : List FV) (A : Option Addr) (c : Nat) : Prop :=
 ∃ b', l.length = many ∧ FSl w' (fun x => (x < lim ∨ w.heap.size ≤ x) ∧ x < w'.heap.size ∧ x ≠ g) A c l ∧ Cln l ∧ BK w' g b' ∧ GB w w' g ∧ (∀ y ∈ l, fsz y < fsz f ∨ y = fI 0) ∧ (b' = false → b = false ∧ f.1 = 2 ∧ l = toL f.2.2.2) ∧ (b = false → f.1 = 2 → f.2.2.2.length = many → b' = false)
theorem fsz_toL {f y : FV} (h : y ∈ toL f.2.2.2) : fsz y < fsz f := by
 have h1 := fsz_mem h
 unfold lsz at h1
 rw [ofL_toL] at h1
 unfold fsz at h1 ⊢
 omega
theorem bparts_any (lim : Nat) (w : World) (g : Nat) (b : Bool) (f : FV) (A : Option Addr) (c many : Nat) (h : BK w g b) (hlim : lim ≤ w.heap.size) (hf : rF w (fun x => x < lim ∧ x ≠ g) f (fC f A c)) (hcl : Cl1 f) (hm : 0 < many) (hm2 : many ≤ 100) (hz : fsz f ≤ 1000000000) :
  Calls Tryz.prog 38 #[.pointer (some ⟨g, 0, none⟩), .agg (fC f A c).toArray, .int .i64 (many : Int)] w fun e w' => ∃ l A' c', e = .returned (.slice A' many c') ∧ PartsR lim w w' g b f many l A' c' := by
 have hps := parts_of hf
 have hln : f.2.2.2.length ≤ 1000000000 := by have := Flds.length_le_size f.2.2.2; unfold fsz at hz; omega
 go_enter Tryz.func38, Tryz.ntmps38
 go_upto_region 1 with (fail)
 generalize hx_ : World.alloc w _ = w1
 have hO : OwnB w w1 [(w.heap.size, fC f A c)] := by rw [← hx_]; exact (OwnB.refl w).new (fC f A c).toArray _ (g := w.heap.size)
 have hb := hO.below
 clear hx_
 have c0 := hO.c 0 0
 have c1 := hO.c 0 1
 have c2 := hO.c 0 2
 have c3 := hO.c 0 3
 have h1 := h.below hb
 repeat' (first | go_skip | go_guarded | go_step)
 refine (bseq_any w1 g b f A c h1).mono ?_
 rintro e w2 ⟨rfl, h2, hg2⟩
 dsimp only
 have hgb := (GB.of hb).trans hg2
 have hg := h2.c
 have hfr := h2.fr
 by_cases hlm : f.2.2.2.length = many
 ·have z0 : ((f.2.2.2.length : Int) == (many : Int)) = true := by simp; omega
  obtain ⟨n, hn⟩ : ∃ n, n = f.2.2.2.length := ⟨_, rfl⟩
  rw [← hn] at z0 hlm hln
  rw [← hn]
  subst hlm
  replace hn := Lib.hid hn
  repeat' (first | go_skip | go_guarded | go_step)
  go_ret
  refine ⟨toL f.2.2.2, A, c, rfl, _, by rw [toL_length, hn.out], fsl_lim hlim hps hgb, cl1_list hcl, h2, hgb, fun y hy => Or.inl (fsz_toL hy), fun hb' => ?_, fun hb0 hk _ => ?_⟩
  ·simp only [Bool.or_eq_false_iff, Bool.not_eq_false', beq_iff_eq] at hb'
   exact ⟨hb'.1, hb'.2, rfl⟩
  ·simp [hb0, hk]
 ·have z0 : ((f.2.2.2.length : Int) == (many : Int)) = false := by simp; omega
  obtain ⟨n, hn⟩ : ∃ n, n = f.2.2.2.length := ⟨_, rfl⟩
  rw [← hn] at z0 hlm hln
  rw [← hn]
  replace hn := Lib.hid hn
  obtain ⟨h3, h4⟩ := store_true h2 (Below.refl _ _)
  go_upto_region 5 with (fail)
  generalize hx_ : World.setCell _ _ _ = w3
  rw [hx_] at h3 h4
  clear hx_
  have hgb3 := hgb.trans h4
  clear hg hfr h2 hg2
  repeat' (first | go_skip | go_guarded | go_step)
  go_loopw [8, 9] (fun u8 u9 wr => ∃ i : Nat, i ≤ many ∧ u9 = .int .i64 (i : Int) ∧ Own w3 wr fldT 4 u8 i (zcs i)) (fun _ u9 _ => many - (intOf u9).toNat)
  case atStart => exact ⟨0, by omega, rfl, Own.nil_ _ _ _⟩
  case round =>
   obtain ⟨i, hi, rfl, hown⟩ := hrel
   by_cases hlt : i < many
   ·have hd : (decide ((i : Int) < many)) = true := by simp; omega
    obtain ⟨Ai, ci, rfl⟩ := hown.slice_form
    repeat' ((fail_if_success at_builtin); first | go_skip | go_guarded | go_step)
    refine wp_app1 hown Tryz.underlying79 fld_info (by omega) ?_
    intro v9 w9 hO9 _
    obtain ⟨A9, c9, rfl⟩ := hO9.slice_form
    repeat' (first | go_skip | go_guarded | go_step)
    go_roundw
    case rel => exact ⟨i + 1, by omega, by go_num, hO9⟩
    case measure => simp [intOf]; omega
   ·have hd : (decide ((i : Int) < many)) = false := by simp; omega
    obtain rfl : i = many := by omega
    obtain ⟨Ai, ci, rfl⟩ := hown.slice_form
    repeat' (first | go_skip | go_guarded | go_step)
    go_ret
    have hBr := h3.below hown.2
    have hs03 := hgb3.size
    have hseq : SeqP wr (fun x => (x < lim ∨ w.heap.size ≤ x) ∧ x < wr.heap.size ∧ x ≠ g) 4 Ai i (zcs i) := by
     refine ⟨by have := hown.seq.1; exact this, fun hn => ?_⟩
     obtain ⟨gg, rfl, hlo, hhi, hcc, _⟩ := hown.head hn
     exact ⟨gg, 0, rfl, ⟨by omega, hhi, by have := h3.lt; omega⟩, fun j u hu => by rw [Nat.zero_add]; exact hcc j u hu⟩
    refine ⟨List.replicate i (fI 0), Ai, ci, rfl, true, by simp, ⟨by rw [List.length_replicate]; exact hown.cap_le, zcs i, by rw [List.length_replicate]; exact hseq, zcs_rd i⟩, cln_zeros i, hBr, hgb3.trans (GB.of hown.2), fun y hy => Or.inr (List.eq_of_mem_replicate hy), (fun hb' => by cases hb'), fun _ _ hl => absurd (hn.out.trans hl) hlm⟩
end Go.Proofs.YtgdapkglofchjaaGreatDoor
