/- Joined: EntP JnRd JnTo JTorn. -/
import Derived.Test.YtgdapkglofchjaaGreatDoorE25
import Derived.Test.YtgdapkglofchjaaGreatDoorE33
import Derived.Test.YtgdapkglofchjaaGreatDoorE35
set_option maxRecDepth 100000
set_option maxHeartbeats 2000000
set_option linter.unusedVariables false
namespace Go.Proofs.YtgdapkglofchjaaGreatDoor
open Go.RowKit
theorem tu_short : ∀ (l : List UInt8) (i acc : Nat), (∀ c ∈ l, 128 ≤ c.toNat) → i + l.length ≤ 9 → tu i acc l = (0, 0, 4)
 | [], _, _, _, _ => rfl
 | c :: r, i, acc, h, hl => by
  have hc := h c (by simp)
  simp only [List.length_cons] at hl
  unfold tu
  rw [if_neg (by omega), if_neg (by omega)]
  exact tu_short r _ _ (fun d hd => h d (by simp [hd])) (by omega)
theorem uv_prefix : ∀ (N n : Nat), n ≤ N → ∀ k, k < (Lib.uvarint n).length → ∀ c ∈ (Lib.uvarint n).take k, 128 ≤ c.toNat
 | N, n, hN, k, hk => by
  intro c hc
  by_cases hs : n < 128
  ·rw [Lib.uvarint_small hs] at hk hc
   simp only [List.length_cons, List.length_nil] at hk
   obtain rfl : k = 0 := by omega
   simp at hc
  ·rw [Lib.uvarint_big (by omega)] at hk hc
   cases k with
   | zero => simp at hc
   | succ k =>
    simp only [List.length_cons] at hk
    rw [List.take_succ_cons] at hc
    rcases List.mem_cons.1 hc with rfl | hc
    ·rw [byte_nat (by omega)]; omega
    ·cases N with
     | zero => omega
     | succ N => exact uv_prefix N (n / 128) (by omega) k (by omega) c hc
theorem tk_cut {x : List UInt8} (h : x ≠ []) (hl : x.length < 18446744073709551616) {k : Nat} (hk : k < (entry x).length) : (tk ((entry x).take k)).1 = 4 := by
 rw [entry_of h] at hk ⊢
 by_cases hu : k < (Lib.uvarint x.length).length
 ·have h10 := Lib.uvarint_length64 (x := x.length) hl
  have ht : takeU ((Lib.uvarint x.length).take k) = (0, 0, 4) := tu_short _ 0 0 (uv_prefix _ _ (Nat.le_refl _) k hu) (by rw [List.length_take]; omega)
  rw [List.take_append_of_le_length (by omega)]
  unfold tk
  rw [ht]
  simp
 ·rw [List.take_append, List.take_of_length_le (by omega)]
  have ht := takeU_uvarint hl ((x ++ sum4 (crc x)).take (k - (Lib.uvarint x.length).length))
  simp only [List.length_append, sum4_length] at hk
  unfold tk
  rw [ht]
  simp only
  rw [if_neg (by simp), if_pos]
  simp only [List.drop_left, List.length_take, List.length_append, sum4_length]
  omega
theorem torn : ∀ (L : List (List FV)), (∀ fs ∈ L, EGood fs) → ∀ k, k ≤ (flat L).length → ∃ m, m ≤ L.length ∧ (flat (L.take m)).length ≤ k ∧ (∀ i, i < L.length → ((flat (L.take (i + 1))).length ≤ k ↔ i < m)) ∧
  RdR ((flat L).take k) (L.take m) (flat (L.take m)).length (if k = (flat (L.take m)).length then 0 else 4)
 | [], _, k, hk => by
  rw [flat_nil] at hk
  simp only [List.length_nil, Nat.le_zero] at hk
  subst hk
  exact ⟨0, Nat.le_refl _, Nat.le_refl _, fun i hi => by simp at hi, RdR.nil⟩
 | fs :: L, h, k, hk => by
  have hg := h fs (by simp)
  have hp := ent_ne hg
  rw [flat_cons, List.length_append] at hk
  by_cases hke : k < (ent fs).length
  ·refine ⟨0, Nat.zero_le _, Nat.zero_le _, fun i hi => ⟨fun hle => ?_, fun h0 => by omega⟩, ?_⟩
   ·rw [List.take_succ_cons, flat_cons, List.length_append] at hle
    omega
   ·rw [flat_cons, List.take_append_of_le_length (by omega)]
    show RdR _ [] 0 _
    by_cases hk0 : k = 0
    ·subst hk0
     exact RdR.nil
    ·have ht : (tk ((ent fs).take k)).1 = 4 := tk_cut hg.ne hg.len hke
     have := RdR.stop (l := (ent fs).take k) (by intro he; have := congrArg List.length he; rw [List.length_take] at this; simp only [List.length_nil] at this; omega) (by rw [ht]; decide)
     rw [ht] at this
     rw [if_neg (by simpa [flat_nil] using hk0)]
     exact this
  ·obtain ⟨m, g1, g2, g3, g4⟩ := torn L (fun g hgm => h g (by simp [hgm])) (k - (ent fs).length) (by omega)
   have e : ∀ j, (flat ((fs :: L).take (j + 1))).length = (ent fs).length + (flat (L.take j)).length := fun j => by rw [List.take_succ_cons, flat_cons, List.length_append]
   refine ⟨m + 1, by simp only [List.length_cons]; omega, by rw [e]; omega, fun i hi => ?_, ?_⟩
   ·rw [e]
    cases i with
    | zero => simp [flat_nil]; omega
    | succ i =>
     have := g3 i (by simpa using hi)
     constructor
     ·intro hle; have := this.1 (by omega); omega
     ·intro hlt; have := this.2 (by omega); omega
   ·rw [e, flat_cons, List.take_append, List.take_of_length_le (by omega), List.take_succ_cons]
    have := rd_one hg g4
    have e2 : (k = (ent fs).length + (flat (L.take m)).length) = (k - (ent fs).length = (flat (L.take m)).length) := by apply propext; omega
    simp only [e2]
    exact this
theorem EvQ.ev {w : World} {A : Option Addr} {n c i : Nat} {L : List (List FV)} {fs : List FV} (h : EvQ w A n c L) (hx : L[i]? = some fs) : ∃ b o E, A = some ⟨b, o, none⟩ ∧ b < w.heap.size ∧ EvR w fs E ∧ w.rangeAt b (o + i * 42) E := by
 obtain ⟨b, o, E, h1, h2, _, h4, h5⟩ := h.at_ hx
 exact ⟨b, o, E, h1, h2, ⟨h4.1, h4.2⟩, fun j v hj => h5 j v hj⟩
def Apart (v u : Value) : Prop := ∀ g, v.ownBlock = some g → u.ownBlock ≠ some g
theorem Apart.symm {v u : Value} (h : Apart v u) : Apart u v := fun g h1 h2 => h g h2 h1
theorem Apart.grew {w w' : World} {v v' u : Value} (h : Apart v u) (hg : Grew w w' v v') (hu : ∀ g, u.ownBlock = some g → g < w.heap.size) : Apart v' u := by
 intro g h1 h2
 rcases hg.at_ with e | e
 ·rw [e] at h1; exact h g h1 h2
 ·rw [e] at h1
  injection h1 with h1
  have := hu g h2
  omega
theorem Own.ltb {W0 w : World} {e : TypeId} {sz n : Nat} {v : Value} {xs : List Value} (H : Own W0 w e sz v n xs) : ∀ g, v.ownBlock = some g → g < w.heap.size := fun g hg => (H.1.lt g hg).2
theorem Own.lob {W0 w : World} {e : TypeId} {sz n : Nat} {v : Value} {xs : List Value} (H : Own W0 w e sz v n xs) : ∀ g, v.ownBlock = some g → W0.heap.size ≤ g := fun g hg => (H.1.lt g hg).1
theorem i64_info : Info Tryz.prog 3 (.int .i64 0) 1 8 := by unfold Info; kernel_rfl
def endsV (V : List (List FV)) : List Value := (List.range V.length).map fun j => .int .i64 ((Go.Proofs.YtgdapkglofchjaaGreatDoor.flat (V.take (j + 1))).length : Int)
theorem endsV_snoc (V : List (List FV)) (fs : List FV) : endsV (V ++ [fs]) = endsV V ++ [.int .i64 ((Go.Proofs.YtgdapkglofchjaaGreatDoor.flat (V ++ [fs])).length : Int)] := by
 unfold endsV
 rw [List.length_append, show [fs].length = 1 from rfl, List.range_succ, List.map_append, List.map_cons, List.map_nil, List.take_of_length_le (l := V ++ [fs]) (by simp)]
 congr 1
 apply List.map_congr_left
 intro j hj
 rw [List.take_append_of_le_length (by have := List.mem_range.1 hj; omega)]
theorem endsV_at {V : List (List FV)} {j : Nat} (h : j < V.length) : (endsV V)[j]? = some (.int .i64 ((Go.Proofs.YtgdapkglofchjaaGreatDoor.flat (V.take (j + 1))).length : Int)) := by
 unfold endsV
 rw [List.getElem?_map, List.getElem?_range h]
 rfl
theorem torn_law (L : List (List FV)) (A1 : Option Addr) (n1 c1 : Nat) (cut : Nat) (w : World) (hcut : cut < 4294967296) (hL : EvS w A1 n1 c1 L) (hsum : (L.map lsz).sum ≤ 2200000) : Calls Tryz.prog 7 #[.slice A1 n1 c1, .int .u32 (cut : Int)] w fun e w' => e = .returned (.bool true) ∧ Below w.heap.size w w' := by
 go_enter Tryz.func7, Tryz.ntmps7
 repeat' (first | go_skip | go_guarded | go_step)
 refine (greats_any L A1 n1 c1 w hL).mono ?_
 rintro e w1 ⟨b1, rfl, hb1, hn1⟩
 dsimp only
 cases b1 with
 | true =>
  repeat' (first | go_skip | go_guarded | go_step)
  refine (lives_any w1).mono ?_
  rintro e w3 ⟨rfl, hbq⟩
  dsimp only
  repeat' (first | go_skip | go_guarded | go_step)
  go_ret
  exact ⟨rfl, hb1.trans (hbq.mono hb1.size)⟩
 | false =>
  have hn20 := hn1 rfl
  have hlen1 := hL.1
  clear hn1
  repeat' (first | go_skip | go_guarded | go_step)
  go_loopw [5, 6, 7, 8] (fun u5 u6 u7 u8 wr => ∃ (i : Nat) (V : List (List FV)) (A5 : Option Addr) (m5 c5 : Nat) (cs7 : List Value), i ≤ n1 ∧ u8 = .int .i64 (i : Int) ∧ u5 = .slice A5 m5 c5 ∧ m5 = (flat V).length ∧ flat V = flat (L.take i) ∧ V.length ≤ i ∧ (∀ fs ∈ V, EGood fs) ∧ m5 ≤ c5 ∧ (A5 = none → c5 = 0) ∧ Seq wr wr.heap.size 1 A5 m5 ((flat V).map bv) ∧ Own w wr 3 1 u6 V.length (endsV V) ∧ Own w wr 43 42 u7 V.length cs7 ∧ RList rEv 42 w (fun b => b < w.heap.size) V cs7 ∧ Apart u6 u7) (fun _ _ _ u8 _ => n1 - (intOf u8).toNat)
  case atStart => exact ⟨0, [], none, 0, 0, [], by omega, rfl, rfl, rfl, rfl, Nat.le_refl _, by simp, Nat.le_refl _, fun _ => rfl, Seq.nil_, (Own.nil_ w _ _).below hb1, (Own.nil_ w _ _).below hb1, rfl, fun g h => by cases h⟩
  case round =>
   obtain ⟨i, V, A5, m5, c5, cs7, hin, rfl, rfl, hm5, hfl, hVi, hgood, hcap, hnil, hq5, hO6, hO7, hR7, hap⟩ := hrel
   have hbr := hO6.2
   have hmb : m5 ≤ 77000000 := by have := hL.take i; rw [hm5, hfl]; omega
   obtain ⟨A6, c6, rfl⟩ := hO6.slice_form
   obtain ⟨A7, c7, rfl⟩ := hO7.slice_form
   replace hm5 := Lib.hid hm5
   replace hfl := Lib.hid hfl
   by_cases hlt : i < n1
   ·have hd : (decide ((i : Int) < n1)) = true := by simp; omega
    obtain ⟨fs, hx⟩ := hL.get hlt
    obtain ⟨b, o, E, rfl, hb, hE, hz, hA⟩ := hL.ev hx
    have hi := ev_info hE.len
    have hrec : RecL evC w (fun b => b < w.heap.size) fs E := hE.rd
    have hsc := flat_succ hx
    have hAr := range_up hA hbr hb
    have hbi : flat (L.take (i + 1)) = flat V ++ ent fs := by rw [hsc, hfl.out]
    replace hx := Lib.hid hx
    replace hsc := Lib.hid hsc
    replace hbi := Lib.hid hbi
    repeat' (first | (refine wpList_load_mid rfl 43 _ rfl b (o + i * 42) rfl E _ hAr Tryz.underlying43 rfl hi ?_) | go_skip | go_guarded | go_step)
    refine (papp_any fs E A5 m5 c5 _ wr (hE.up hbr) hz hnil hm5.out.symm (by omega) hq5).mono ?_
    rintro e w2 ⟨A8, c8, he8, hB8⟩
    rw [← hbi.out] at he8 hB8
    obtain ⟨m8, hm8⟩ : ∃ m8, m8 = (flat (L.take (i + 1))).length := ⟨_, rfl⟩
    rw [← hm8] at he8
    have hB8' : Own wr w2 5 1 (.slice A8 m8 c8) m8 ((flat (L.take (i + 1))).map bv) := by rw [hm8]; exact hB8
    have hm8e : m8 = m5 + (ent fs).length := by rw [hm8, hbi.out, List.length_append, ← hm5.out]
    replace hm8 := Lib.hid hm8
    clear hB8 hq5
    subst he8
    dsimp only
    have hb2 := hB8'.2
    have hO6' := hO6.below hb2
    have hO7' := hO7.below hb2
    have hbw2 : Below w.heap.size w w2 := hbr.trans (hb2.mono hbr.size)
    have hA2 := range_up hA hbw2 hb
    have hO6b := hO6.ltb
    have hO7b := hO7.ltb
    clear hO6 hO7 hAr
    by_cases hne : encF fs = []
    ·have hent : ent fs = [] := ent_nil hne
     rw [hent, List.length_nil, Nat.add_zero] at hm8e
     subst hm8e
     have hv : validF fs ≠ 0 := fun h0 => by have := encF_ne h0; rw [hne] at this; simp at this
     have hfl2 : flat V = flat (L.take (i + 1)) := by rw [hbi.out, hent, List.append_nil]
     have z0 : (validF fs == 0) = false := by simpa using hv
     have z1 : (validF fs != 0) = true := by simpa using hv
     have CV := Lib.hid (pvalid_any fs E w2 (hE.up hbw2) (by omega))
     replace hv := Lib.hid hv
     replace hfl2 := Lib.hid hfl2
     clear hne hent
     repeat' (first | (refine wpList_load_mid rfl 43 _ rfl b (o + i * 42) rfl E _ hA2 Tryz.underlying43 rfl hi ?_) | go_skip | go_guarded | go_step)
     refine CV.out.mono ?_
     clear CV
     rintro e w3 ⟨rfl, hb3⟩
     dsimp only
     repeat' (first | go_skip | go_guarded | go_step)
     go_roundw
     case rel => exact ⟨i + 1, V, A8, m8, c8, cs7, by omega, by go_num, rfl, by rw [hm8.out, hfl2.out], hfl2.out, by omega, hgood, hB8'.cap_le, own_nilc hB8', by rw [hfl2.out]; exact (hB8'.seq.below hb3).more hb3.size, hO6'.below hb3, hO7'.below hb3, hR7, hap⟩
     case measure => simp [intOf]; omega
    ·have hep := ent_pos hne
     have hv : validF fs = 0 := Classical.byContradiction fun hv => hne (encF_nil hv)
     have heg := egood hE hz hv
     have hmlt : (m5 : Int) < (m8 : Int) := by omega
     have hdm : (decide ((m5 : Int) < m8)) = true := by simp; omega
     obtain ⟨g8, rfl, hlo8, hhi8, hc8, _⟩ := hB8'.head (by omega)
     have hcap8 := hB8'.cap_le
     have hO6b := fun g (hg : (Value.slice A6 V.length c6).ownBlock = some g) => hO6b g hg
     replace hm8e := Lib.hid hm8e
     replace hv := Lib.hid hv
     clear hB8' hep
     repeat' ((fail_if_success at_builtin); first | go_skip | go_guarded | go_step)
     refine wp_app1 hO6' Tryz.underlying31 i64_info (by omega) ?_
     intro v6 w3 hO6n hg6
     have hba : Below w2.heap.size w2 (w2.alloc (.cells #[.int .i64 (m8 : Int)] 3)) := (Below.refl _ _).alloc (Nat.le_refl _) _
     have hO7n := (hO7'.below hba).grown hg6.by_ hap.symm (fun k hk => hO6'.lob k hk)
     have hapn : Apart v6 (.slice A7 V.length c7) := hap.grew hg6 (fun g hg => Nat.lt_of_lt_of_le (hO7'.ltb g hg) hba.size)
     have hne8 : some g8 ≠ (Value.slice A6 V.length c6).ownBlock := fun e => by have := hO6b g8 e.symm; omega
     have hlt8a : g8 < (w2.alloc (.cells #[.int .i64 (m8 : Int)] 3)).heap.size := Nat.lt_of_lt_of_le hhi8 hba.size
     have hc8n : ∀ j u, ((flat (L.take (i + 1))).map bv)[j]? = some u → w3.cell? ⟨g8, j, none⟩ = some u := fun j u hu => ((hg6.cell (p := ⟨g8, j, none⟩) hlt8a hne8).trans (hba.cell (p := ⟨g8, j, none⟩) hhi8)).trans (hc8 j u hu)
     have hlt8 : g8 < w3.heap.size := Nat.lt_of_lt_of_le hlt8a hg6.by_.size
     obtain ⟨A9, c9, rfl⟩ := hO6n.slice_form
     have hbw3 := hO6n.2
     have hA3 := range_up hA hbw3 hb
     have hs23 : w2.heap.size ≤ w3.heap.size := Nat.le_trans hba.size hg6.by_.size
     clear hO6' hO7' hap hg6 hba hc8 hne8 hlt8a hA2 hhi8
     repeat' ((fail_if_success at_builtin); (first | (refine wpList_load_mid rfl 43 _ rfl b (o + i * 42) rfl E _ hA3 Tryz.underlying43 rfl hi ?_) | (refine wpList_slice1 rfl 58 43 _ rfl E rfl Tryz.underlying58 hi (by kernel_rfl) (by rw [hE.len]; decide) (by rw [hE.len]; decide) ?_) | go_skip | go_guarded | go_step))
     refine wp_app1 hO7n Tryz.underlying58 ev_inf (by omega) ?_ (hcs := by rw [List.size_toArray]; exact hE.len) (h1 := by simpa using hrec.one evC_ok)
     intro v7 w4 hO7m hg7
     have hbb : Below w3.heap.size w3 (w3.alloc (.cells E.toArray 43)) := (Below.refl _ _).alloc (Nat.le_refl _) _
     have hO6m := (hO6n.below hbb).grown hg7.by_ hapn (fun k hk => hO7n.lob k hk)
     have hapm : Apart (.slice A9 (V.length + 1) c9) v7 := (hapn.symm.grew hg7 (fun g hg => Nat.lt_of_lt_of_le (hO6n.ltb g hg) hbb.size)).symm
     have hne8 : some g8 ≠ (Value.slice A7 V.length c7).ownBlock := fun e => by have := hO7b g8 e.symm; omega
     have hlt8a : g8 < (w3.alloc (.cells E.toArray 43)).heap.size := Nat.lt_of_lt_of_le hlt8 hbb.size
     have hc8m : ∀ j u, ((flat (L.take (i + 1))).map bv)[j]? = some u → w4.cell? ⟨g8, j, none⟩ = some u := fun j u hu => ((hg7.cell (p := ⟨g8, j, none⟩) hlt8a hne8).trans (hbb.cell (p := ⟨g8, j, none⟩) hlt8)).trans (hc8n j u hu)
     have hlt8m : g8 < w4.heap.size := Nat.lt_of_lt_of_le hlt8a hg7.by_.size
     clear hO6n hO7n hapn hg7 hbb hc8n hne8 hlt8a hlt8 hA3
     obtain ⟨A0, c0, rfl⟩ := hO7m.slice_form
     repeat' (first | go_skip | go_guarded | go_step)
     go_roundw
     case rel =>
      have hfs : flat (V ++ [fs]) = flat (L.take (i + 1)) := by rw [flat_snoc, hbi.out]
      have hl1 : (V ++ [fs]).length = V.length + 1 := by simp
      refine ⟨i + 1, V ++ [fs], some ⟨g8, 0, none⟩, m8, c8, cs7 ++ E, by omega, by go_num, rfl, by rw [hfs]; exact hm8.out, hfs, by rw [hl1]; omega, ?_, hcap8, (fun h => by cases h), by rw [hfs]; exact seq_at (by rw [List.length_map, hm8.out]) hlt8m hc8m, ?_, by rw [hl1]; exact hO7m, ?_, hapm⟩
      ·intro f hf
       rcases List.mem_append.1 hf with hf | hf
       ·exact hgood f hf
       ·rw [List.mem_singleton.1 hf]; exact heg
      ·rw [hl1, endsV_snoc, hfs, ← hm8.out]; exact hO6m
      ·exact hR7.append (RList.one ⟨hrec, hz⟩ hE.len)
     case measure => simp [intOf]; omega
   ·have hd : (decide ((i : Int) < n1)) = false := by simp; omega
    obtain rfl : i = n1 := by omega
    have hmb5 := hm5.out
    obtain ⟨wa, hwa⟩ : ∃ wa, wa = wr := ⟨wr, rfl⟩
    subst hwa
    obtain ⟨kk, hkk⟩ : ∃ kk, kk = cut % (m5 + 1) := ⟨_, rfl⟩
    have hkm : kk ≤ m5 := by have := Nat.mod_lt cut (show 0 < m5 + 1 by omega); omega
    have hmod : (cut : Int) % ((m5 : Int) + 1) = (kk : Int) := by rw [hkk, Int.natCast_emod]; rfl
    obtain ⟨m, hm1, hm2, hm3, hRd⟩ := torn V hgood kk (by rw [← hmb5]; exact hkm)
    replace hm3 := Lib.hid hm3
    replace hRd := Lib.hid hRd
    replace hkk := Lib.hid hkk
    clear hgood hnil hmb5
    have hcutI : (cut : Int) < 4294967296 := by omega
    repeat' ((fail_if_success at_builtin); first | go_skip | go_guarded | go_step)
    rw [hmod]
    clear hmod
    go_loop [11, 12, 13] (fun u11 u12 u13 => ∃ j x y : Nat, j ≤ V.length ∧ u13 = .int .i64 (j : Int) ∧ u11 = .int .i64 (x : Int) ∧ u12 = .int .i64 (y : Int) ∧ y = (flat (V.take x)).length ∧ (j ≤ m → x = j) ∧ (m ≤ j → x = m)) (fun _ _ u13 => V.length - (intOf u13).toNat)
    case atStart => exact ⟨0, 0, 0, by omega, rfl, rfl, rfl, rfl, fun _ => rfl, fun h => by omega⟩
    case round =>
     obtain ⟨j, x, y, hj, rfl, rfl, rfl, hy, hx1, hx2⟩ := hrel
     replace hy := Lib.hid hy
     replace hx1 := Lib.hid hx1
     replace hx2 := Lib.hid hx2
     by_cases hjl : j < V.length
     ·have hd2 : (decide ((j : Int) < V.length)) = true := by simp; omega
      obtain ⟨g6, rfl, _, _, hc6, _⟩ := hO6.head (by omega)
      have hcell := hc6 j _ (endsV_at hjl)
      have h3 := hm3.out j hjl
      obtain ⟨ej, hej⟩ : ∃ ej, ej = (flat (V.take (j + 1))).length := ⟨_, rfl⟩
      rw [← hej] at hcell h3
      replace hej := Lib.hid hej
      by_cases hjm : j < m
      ·have hle : (ej : Int) ≤ kk := Int.ofNat_le.2 (h3.2 hjm)
       clear h3
       repeat' (first | go_skip | go_guarded | go_step)
       go_round
       case rel => exact ⟨j + 1, j + 1, ej, by omega, by go_num, by go_num, rfl, hej.out, fun _ => rfl, fun h => by omega⟩
       case measure => simp [intOf]; omega
      ·have hle : ¬ (ej : Int) ≤ kk := fun h => hjm (h3.1 (Int.ofNat_le.1 h))
       clear h3
       repeat' (first | go_skip | go_guarded | go_step)
       go_round
       case rel => exact ⟨j + 1, x, y, by omega, by go_num, rfl, rfl, hy.out, fun h => by omega, fun _ => hx2.out (by omega)⟩
       case measure => simp [intOf]; omega
     ·have hd2 : (decide ((j : Int) < V.length)) = false := by simp; omega
      obtain rfl : x = m := hx2.out (by omega)
      clear hx1 hx2
      have hqk := seq_take hq5 (j := kk) hkm
      have hkl : ((flat V).take kk).length = kk := by rw [List.length_take, ← hm5.out]; omega
      have hkc : (kk : Int) ≤ (c5 : Int) := by omega
      have hk1 : kk ≤ 77000000 := by omega
      replace hkl := Lib.hid hkl
      repeat' (first | go_skip | go_guarded | go_step)
      refine (pread_any ((flat V).take kk) A5 kk c5 wa hkl.out (by omega) (by omega) hqk).mono ?_
      rintro e w2 ⟨Aq, cq, es, nn, code, he, hRd2, hQ, hb2⟩
      obtain ⟨he1, he2, he3⟩ := hRd2.uniq hRd.out
      subst he1
      subst he2
      have hel : (V.take x).length = x := by rw [List.length_take]; omega
      rw [hel] at he hQ
      rw [← hy.out] at he he3
      clear hRd2 hm3 hq5 hqk
      replace hel := Lib.hid hel
      have hbw2 : Below w.heap.size w w2 := hbr.trans (hb2.mono hbr.size)
      by_cases hka : kk = y
      ·rw [if_pos hka] at he3
       subst he3
       subst he
       dsimp only
       have z0 : ((kk : Int) == (y : Int)) = true := by simp; omega
       replace hka := Lib.hid hka
       repeat' (first | go_skip | go_guarded | go_step)
       go_loopw [17] (fun u17 wr => ∃ q : Nat, q ≤ x ∧ u17 = .int .i64 (q : Int) ∧ Below w2.heap.size w2 wr) (fun u17 _ => x - (intOf u17).toNat)
       case atStart => exact ⟨0, by omega, rfl, Below.refl _ _⟩
       case round =>
        obtain ⟨q, hqx, rfl, hbq0⟩ := hrel
        have hbwr : Below w.heap.size w wr := hbw2.trans (hbq0.mono hbw2.size)
        by_cases hqm : q < x
        ·have hdq : (decide ((q : Int) < x)) = true := decide_eq_true (Int.ofNat_lt.2 hqm)
         obtain ⟨fs, hxf⟩ : ∃ fs, (V.take x)[q]? = some fs := ⟨(V.take x)[q]'(by have := hel.out; omega), List.getElem?_eq_getElem _⟩
         obtain ⟨b1, o1, E1, rfl, hlt1, hE1, hA1⟩ := hQ.ev hxf
         have hxv : V[q]? = some fs := by rw [List.getElem?_take] at hxf; rw [if_pos hqm] at hxf; exact hxf
         obtain ⟨E2, hE2l, hE2, hE2c⟩ := hR7.at_ hxv
         obtain ⟨g7, rfl, _, hg7, hc7, _⟩ := hO7.head (by omega)
         have hA2 : wa.rangeAt g7 (q * 42) E2 := fun j v hj => hc7 _ v (hE2c j v hj)
         have hlt2 : g7 < w2.heap.size := Nat.lt_of_lt_of_le hg7 hb2.size
         have hA2 := range_up (range_up hA2 hb2 hg7) hbq0 hlt2
         have hA1 := range_up hA1 hbq0 hlt1
         have hEa : EvR wr fs E1 := hE1.up hbq0
         have hEb : EvR wr fs E2 := (EvR.up ⟨hE2.1, by have := hE2.2; omega⟩ hbwr)
         have hlt1 := Nat.lt_of_lt_of_le hlt1 hbq0.size
         have hlt2 := Nat.lt_of_lt_of_le hlt2 hbq0.size
         have hi1 := ev_info hEa.len
         have hi2 := ev_info hEb.len
         have hx1 : (q : Int) < (x : Int) := Int.ofNat_lt.2 hqm
         have hx2 : (q : Int) < (V.length : Int) := by omega
         replace hxf := Lib.hid hxf
         replace hxv := Lib.hid hxv
         clear hc7 hE2c hE1
         go_upto_region 30 with (fail)
         have hS0 : (Below wr.heap.size wr wr ∧ wr.rangeAt b1 (o1 + q * 42) E1 ∧ wr.rangeAt g7 (q * 42) E2) := ⟨Below.refl _ _, hA1, hA2⟩
         have keepS : ∀ v1 v2 : World, (Below wr.heap.size wr v1 ∧ v1.rangeAt b1 (o1 + q * 42) E1 ∧ v1.rangeAt g7 (q * 42) E2) → Below v1.heap.size v1 v2 → (Below wr.heap.size wr v2 ∧ v2.rangeAt b1 (o1 + q * 42) E1 ∧ v2.rangeAt g7 (q * 42) E2) := fun v1 v2 h hb => ⟨h.1.trans (hb.mono h.1.size), range_up h.2.1 hb (Nat.lt_of_lt_of_le hlt1 h.1.size), range_up h.2.2 hb (Nat.lt_of_lt_of_le hlt2 h.1.size)⟩
         have hS1 : (Below wr.heap.size wr wr.drew ∧ wr.drew.rangeAt b1 (o1 + q * 42) E1 ∧ wr.drew.rangeAt g7 (q * 42) E2) := keepS _ _ hS0 ((Below.refl _ _).drew)
         replace keepS := Lib.hid keepS
         clear hS0
         refine wp_region_held_drew (S := fun w' => Below wr.heap.size wr w' ∧ w'.rangeAt b1 (o1 + q * 42) E1 ∧ w'.rangeAt g7 (q * 42) E2) (by kernel_rfl) ?_ (fun hHeld => ?_)
         ·(try dsimp only)
          exact hS1
         refine tkY 0 (v := ?v1) rfl (.inl ⟨by rfl, ?hy1⟩) ?hr1
         case hy1 => (intro w hSw; (try dsimp only at hSw); go_simp; try with_reducible rfl)
         simp only [Act.put, Z1, Z2, Z4, Z5, Z6]
         refine tkY 1 (v := ?v2) rfl (.inl ⟨by rfl, ?hy2⟩) ?hr2
         case hy2 => (intro w hSw; (try dsimp only at hSw); go_simp; try with_reducible rfl)
         simp only [Act.put, Z1, Z2, Z3, Z4, Z5, Z6]
         refine tkY 2 (v := ?v3) rfl (.inl ⟨by rfl, ?hy3⟩) ?hr3
         case hy3 => (intro w hSw; (try dsimp only at hSw); go_simp; try with_reducible rfl)
         simp only [Act.put, Z1, Z2, Z3, Z4, Z5, Z6]
         refine tkY 3 (v := .agg E1.toArray) rfl (yieldsIf_load_mid (by rfl) 43 _ rfl b1 (o1 + q * 42) rfl E1 _ (fun v h => h.2.1) Tryz.underlying43 rfl hi1) ?hr4
         simp only [Act.put, Z1, Z2, Z3, Z4, Z5, Z6]
         refine tkY 4 (v := ?v5) rfl (.inl ⟨by rfl, ?hy5⟩) ?hr5
         case hy5 => (intro w hSw; (try dsimp only at hSw); go_simp; try with_reducible rfl)
         simp only [Act.put, Z1, Z2, Z3, Z4, Z5, Z6]
         refine tkY 5 (v := ?v6) rfl (.inl ⟨by rfl, ?hy6⟩) ?hr6
         case hy6 => (intro w hSw; (try dsimp only at hSw); go_simp; try with_reducible rfl)
         simp only [Act.put, Z1, Z2, Z3, Z4, Z5, Z6]
         refine tkY 6 (v := ?v7) rfl (.inl ⟨by rfl, ?hy7⟩) ?hr7
         case hy7 => (intro w hSw; (try dsimp only at hSw); go_simp; try with_reducible rfl)
         simp only [Act.put, Z1, Z2, Z3, Z4, Z5, Z6]
         refine tkY 7 (v := .agg E2.toArray) rfl (yieldsIf_load_mid (by rfl) 43 _ rfl g7 (q * 42) rfl E2 _ (fun v h => h.2.2) Tryz.underlying43 rfl hi2) ?hr8
         simp only [Act.put, Z1, Z2, Z3, Z4, Z5, Z6]
         refine wpAnyH_ready (rs := [8]) (by kernel_rfl) (by simp) ?_
         refine AllReadyH.cons rfl (fun K hK => ?_) AllReadyH.nil
         go_simp
         go_at_call 17
         refine (rsame_ev fs fs E1 E2 _ (hEa.up (hHeld.1)) (hEb.up (hHeld.1))).mono ?_
         rintro e z4 ⟨rfl, hbq⟩
         dsimp only
         rw [eqF_refl]
         refine hK.out _ _ ?_ (fun hHeld => ?_)
         ·(try dsimp only)
          exact keepS.out _ _ hHeld hbq
         clear hK K
         try simp only [Act.put, Z1, Z2, Z3, Z4, Z5, Z6]
         refine tkY 9 (v := ?v9) rfl (.inl ⟨by rfl, ?hy9⟩) ?hr9
         case hy9 => (intro w hSw; (try dsimp only at hSw); go_simp; try with_reducible rfl)
         simp only [Act.put, Z1, Z2, Z3, Z4, Z5, Z6]
         refine wpAnyH_done (by kernel_rfl) ?_ _
         have hbW := hHeld.1
         clear hHeld hS1 keepS
         repeat' (first | go_skip | go_guarded | go_step)
         go_roundw
         case rel => exact ⟨q + 1, by omega, by go_num, hbq0.trans (hbW.mono hbq0.size)⟩
         case measure => simp [intOf]; omega
        ·have hdq : (decide ((q : Int) < x)) = false := decide_eq_false (fun h => hqm (Int.ofNat_lt.1 h))
         repeat' (first | go_skip | go_guarded | go_step)
         refine (lives_any wr).mono ?_
         rintro e w9 ⟨rfl, hbq⟩
         dsimp only
         repeat' (first | go_skip | go_guarded | go_step)
         go_ret
         exact ⟨rfl, hbwr.trans (hbq.mono hbwr.size)⟩
      ·rw [if_neg hka] at he3
       subst he3
       subst he
       dsimp only
       have z0 : ((kk : Int) == (y : Int)) = false := by simp; omega
       replace hka := Lib.hid hka
       repeat' (first | go_skip | go_guarded | go_step)
       go_loopw [17] (fun u17 wr => ∃ q : Nat, q ≤ x ∧ u17 = .int .i64 (q : Int) ∧ Below w2.heap.size w2 wr) (fun u17 _ => x - (intOf u17).toNat)
       case atStart => exact ⟨0, by omega, rfl, Below.refl _ _⟩
       case round =>
        obtain ⟨q, hqx, rfl, hbq0⟩ := hrel
        have hbwr : Below w.heap.size w wr := hbw2.trans (hbq0.mono hbw2.size)
        by_cases hqm : q < x
        ·have hdq : (decide ((q : Int) < x)) = true := decide_eq_true (Int.ofNat_lt.2 hqm)
         obtain ⟨fs, hxf⟩ : ∃ fs, (V.take x)[q]? = some fs := ⟨(V.take x)[q]'(by have := hel.out; omega), List.getElem?_eq_getElem _⟩
         obtain ⟨b1, o1, E1, rfl, hlt1, hE1, hA1⟩ := hQ.ev hxf
         have hxv : V[q]? = some fs := by rw [List.getElem?_take] at hxf; rw [if_pos hqm] at hxf; exact hxf
         obtain ⟨E2, hE2l, hE2, hE2c⟩ := hR7.at_ hxv
         obtain ⟨g7, rfl, _, hg7, hc7, _⟩ := hO7.head (by omega)
         have hA2 : wa.rangeAt g7 (q * 42) E2 := fun j v hj => hc7 _ v (hE2c j v hj)
         have hlt2 : g7 < w2.heap.size := Nat.lt_of_lt_of_le hg7 hb2.size
         have hA2 := range_up (range_up hA2 hb2 hg7) hbq0 hlt2
         have hA1 := range_up hA1 hbq0 hlt1
         have hEa : EvR wr fs E1 := hE1.up hbq0
         have hEb : EvR wr fs E2 := (EvR.up ⟨hE2.1, by have := hE2.2; omega⟩ hbwr)
         have hlt1 := Nat.lt_of_lt_of_le hlt1 hbq0.size
         have hlt2 := Nat.lt_of_lt_of_le hlt2 hbq0.size
         have hi1 := ev_info hEa.len
         have hi2 := ev_info hEb.len
         have hx1 : (q : Int) < (x : Int) := Int.ofNat_lt.2 hqm
         have hx2 : (q : Int) < (V.length : Int) := by omega
         replace hxf := Lib.hid hxf
         replace hxv := Lib.hid hxv
         clear hc7 hE2c hE1
         go_upto_region 30 with (fail)
         have hS0 : (Below wr.heap.size wr wr ∧ wr.rangeAt b1 (o1 + q * 42) E1 ∧ wr.rangeAt g7 (q * 42) E2) := ⟨Below.refl _ _, hA1, hA2⟩
         have keepS : ∀ v1 v2 : World, (Below wr.heap.size wr v1 ∧ v1.rangeAt b1 (o1 + q * 42) E1 ∧ v1.rangeAt g7 (q * 42) E2) → Below v1.heap.size v1 v2 → (Below wr.heap.size wr v2 ∧ v2.rangeAt b1 (o1 + q * 42) E1 ∧ v2.rangeAt g7 (q * 42) E2) := fun v1 v2 h hb => ⟨h.1.trans (hb.mono h.1.size), range_up h.2.1 hb (Nat.lt_of_lt_of_le hlt1 h.1.size), range_up h.2.2 hb (Nat.lt_of_lt_of_le hlt2 h.1.size)⟩
         have hS1 : (Below wr.heap.size wr wr.drew ∧ wr.drew.rangeAt b1 (o1 + q * 42) E1 ∧ wr.drew.rangeAt g7 (q * 42) E2) := keepS _ _ hS0 ((Below.refl _ _).drew)
         replace keepS := Lib.hid keepS
         clear hS0
         refine wp_region_held_drew (S := fun w' => Below wr.heap.size wr w' ∧ w'.rangeAt b1 (o1 + q * 42) E1 ∧ w'.rangeAt g7 (q * 42) E2) (by kernel_rfl) ?_ (fun hHeld => ?_)
         ·(try dsimp only)
          exact hS1
         refine tkY 0 (v := ?v10) rfl (.inl ⟨by rfl, ?hy10⟩) ?hr10
         case hy10 => (intro w hSw; (try dsimp only at hSw); go_simp; try with_reducible rfl)
         simp only [Act.put, Z1, Z2, Z4, Z5, Z6]
         refine tkY 1 (v := ?v11) rfl (.inl ⟨by rfl, ?hy11⟩) ?hr11
         case hy11 => (intro w hSw; (try dsimp only at hSw); go_simp; try with_reducible rfl)
         simp only [Act.put, Z1, Z2, Z3, Z4, Z5, Z6]
         refine tkY 2 (v := ?v12) rfl (.inl ⟨by rfl, ?hy12⟩) ?hr12
         case hy12 => (intro w hSw; (try dsimp only at hSw); go_simp; try with_reducible rfl)
         simp only [Act.put, Z1, Z2, Z3, Z4, Z5, Z6]
         refine tkY 3 (v := .agg E1.toArray) rfl (yieldsIf_load_mid (by rfl) 43 _ rfl b1 (o1 + q * 42) rfl E1 _ (fun v h => h.2.1) Tryz.underlying43 rfl hi1) ?hr13
         simp only [Act.put, Z1, Z2, Z3, Z4, Z5, Z6]
         refine tkY 4 (v := ?v14) rfl (.inl ⟨by rfl, ?hy14⟩) ?hr14
         case hy14 => (intro w hSw; (try dsimp only at hSw); go_simp; try with_reducible rfl)
         simp only [Act.put, Z1, Z2, Z3, Z4, Z5, Z6]
         refine tkY 5 (v := ?v15) rfl (.inl ⟨by rfl, ?hy15⟩) ?hr15
         case hy15 => (intro w hSw; (try dsimp only at hSw); go_simp; try with_reducible rfl)
         simp only [Act.put, Z1, Z2, Z3, Z4, Z5, Z6]
         refine tkY 6 (v := ?v16) rfl (.inl ⟨by rfl, ?hy16⟩) ?hr16
         case hy16 => (intro w hSw; (try dsimp only at hSw); go_simp; try with_reducible rfl)
         simp only [Act.put, Z1, Z2, Z3, Z4, Z5, Z6]
         refine tkY 7 (v := .agg E2.toArray) rfl (yieldsIf_load_mid (by rfl) 43 _ rfl g7 (q * 42) rfl E2 _ (fun v h => h.2.2) Tryz.underlying43 rfl hi2) ?hr17
         simp only [Act.put, Z1, Z2, Z3, Z4, Z5, Z6]
         refine wpAnyH_ready (rs := [8]) (by kernel_rfl) (by simp) ?_
         refine AllReadyH.cons rfl (fun K hK => ?_) AllReadyH.nil
         go_simp
         go_at_call 17
         refine (rsame_ev fs fs E1 E2 _ (hEa.up (hHeld.1)) (hEb.up (hHeld.1))).mono ?_
         rintro e z4 ⟨rfl, hbq⟩
         dsimp only
         rw [eqF_refl]
         refine hK.out _ _ ?_ (fun hHeld => ?_)
         ·(try dsimp only)
          exact keepS.out _ _ hHeld hbq
         clear hK K
         try simp only [Act.put, Z1, Z2, Z3, Z4, Z5, Z6]
         refine tkY 9 (v := ?v18) rfl (.inl ⟨by rfl, ?hy18⟩) ?hr18
         case hy18 => (intro w hSw; (try dsimp only at hSw); go_simp; try with_reducible rfl)
         simp only [Act.put, Z1, Z2, Z3, Z4, Z5, Z6]
         refine wpAnyH_done (by kernel_rfl) ?_ _
         have hbW := hHeld.1
         clear hHeld hS1 keepS
         repeat' (first | go_skip | go_guarded | go_step)
         go_roundw
         case rel => exact ⟨q + 1, by omega, by go_num, hbq0.trans (hbW.mono hbq0.size)⟩
         case measure => simp [intOf]; omega
        ·have hdq : (decide ((q : Int) < x)) = false := decide_eq_false (fun h => hqm (Int.ofNat_lt.1 h))
         repeat' (first | go_skip | go_guarded | go_step)
         refine (lives_any wr).mono ?_
         rintro e w9 ⟨rfl, hbq⟩
         dsimp only
         repeat' (first | go_skip | go_guarded | go_step)
         go_ret
         exact ⟨rfl, hbwr.trans (hbq.mono hbwr.size)⟩
end Go.Proofs.YtgdapkglofchjaaGreatDoor
namespace Go.Proofs.YtgdapkglofchjaaGreatDoor
open Go.ChangeShapes Go.WideShapes Go.ChangeAt Go.RowKit
open Go.ChangeMaps (open_string shut_string)
set_option linter.unusedVariables false
namespace jtorn
theorem witness_row (os : Os) {H : Type} (enc : TypeId × Value → H) :
  (Rows.OpenSpec.upto Rows.journalTornSpec).preRow enc Tryz.prog Tryz.f7 Rows.journalTornUptoRow.domain false Rows.journalTornUptoRow.laid ((laidWorld os).forCall (fun _ _ => 0) ⟨#[], #[.slice none 0 0, .int .u32 0], []⟩).memory #[.slice none 0 0, .int .u32 0] := by
 have hw : (DataW.whole enc Tryz.prog ((laidWorld os).forCall (fun _ _ => 0) ⟨#[], #[.slice none 0 0, .int .u32 0], []⟩).memory Tryz.f7.params.toList Rows.journalTornSpec.vars false (#[.slice none 0 0, .int .u32 0] : Array Value).toList 8).map (fun x => (x.1, x.2.1)) =
   some ([.nil, .lit (.int .u32 0)], []) := by kernel_rfl
 obtain ⟨⟨x1, x2, x3⟩, hx, hx1⟩ := Option.map_eq_some_iff.1 hw
 simp only [Prod.mk.injEq] at hx1
 obtain ⟨rfl, rfl⟩ := hx1
 exact OpenSpec.preRow_of_cond 8 hx (by kernel_rfl) (fun k hk => by cases hk; kernel_rfl) (by kernel_rfl) (laid_met os _)
theorem lifted (os : Os) (started : os.Started) (H : Type) (enc : TypeId × Value → H) (F : Stop.Interp) :
  ReturnsInHanded {} Tryz.checked os 7 .any ((Rows.OpenSpec.upto Rows.journalTornSpec).preRow enc Tryz.prog Tryz.f7 Rows.journalTornUptoRow.domain false Rows.journalTornUptoRow.laid) (((Rows.OpenSpec.upto Rows.journalTornSpec).at F).post enc Tryz.prog Tryz.f7 false true false false) := by
 refine returnsInHanded_of_row (C := Tryz.checked) (s := Rows.OpenSpec.upto Rows.journalTornSpec) ownK started (by kernel_rfl) Tryz.func7
  (witness_row_atRef (enc := enc) (C := Tryz.checked) false (laidWorld os) #[.slice none 0 0, .int .u32 0] rfl (by kernel_rfl) (by kernel_rfl) (by kernel_rfl) (witness_row os enc)) ?_
 intro W base args ds gs before hval0 hW _ hcond _ hL hShape _
 have hval : ∀ (j : Nat) t v, Tryz.f7.params[j]? = some t → args[j]? = some v → Value.okWide Tryz.prog W .any base t v := hval0
 have hW' := hW
 obtain ⟨p, q, hA0, hV, rfl, hfz, hnd⟩ := hW
 have hA : DataW.TrodAll enc Tryz.prog W 0 (fun _ => true) true Tryz.f7.params.toList args.toList ds p := hA0
 rw [Tryz.params7] at hA hval
 obtain ⟨v0, vs0, d0, ds0, p0, q0, hargs, rfl, rfl, h0, r0⟩ := trodAll_cons hA
 obtain ⟨v1, vs1, d1, ds1, p1, q1, rfl, rfl, rfl, h1, r1⟩ := trodAll_cons r0
 obtain ⟨rfl, rfl, rfl⟩ := trodAll_nil r1
 obtain rfl : args = #[v0, v1] := by cases args; simp_all
 obtain ⟨rfl, rfl⟩ := trodVars_none hV
 obtain ⟨a0, len0, cap0, rfl⟩ := okWide_slice Tryz.underlying58 (hval 0 58 v0 rfl rfl)
 have k0 := h0
 have lt0 : ∀ x ∈ p0, x.block < W.heap.size := by obtain ⟨m, hm⟩ := k0; exact DataW.trod_lt m _ _ _ hm
 obtain ⟨fuel0, hf0⟩ := h0
 obtain ⟨x1, rfl, rfl, rfl, w1⟩ := open_int Tryz.underlying66 (hval 1 66 v1 rfl rfl) h1
 have hb := of_decide_eq_true (hcond _ rfl)
 simp only [List.append_nil, Rows.uptoBulkAll] at hb
 have hbb : Rows.uptoBulk d0 ≤ 1048576 := by omega
 obtain ⟨L, hL, hsum, _⟩ := open_events hf0 hbb
 have b1 : 0 ≤ x1 ∧ x1 ≤ 4294967295 := by simpa [Lit.wf, IntKind.min, IntKind.max, IntKind.signed, IntKind.bits] using w1
 obtain ⟨cut, rfl⟩ := Int.eq_ofNat_of_zero_le b1.1
 refine (torn_law L a0 len0 cap0 cut W (by omega) hL hsum).mono fun e W' ⟨he, bel⟩ => ?_
 clear hA0 hval0
 subst he
 exact ⟨_, rfl, _, _, _, [], _, [], hW', trodAll_mk1 (shut_bool Tryz.underlying4 _), (trodAll_cons_mk (Below.trod laidOut (by kernel_rfl) (of_decide_eq_true (by kernel_rfl)) k0 bel lt0) (trodAll_cons_mk (shut_int Tryz.underlying66 w1) trodAll_mk0)), rfl, bel.frame _, fun h => by cases h⟩
theorem said : Rows.JournalTornUptoSaid :=
 OpenClaim.holds_of_cond 7 Tryz.f7 rfl rfl rfl rfl rfl rfl rfl ⟨rfl, rfl, rfl, rfl, rfl⟩ rfl rfl rfl rfl rfl (by kernel_rfl) Tryz.func7 (by kernel_rfl)
  (of_decide_eq_true (by kernel_rfl)) (by unfold Func.isWrapper; first | (rw [if_pos (by decide +kernel)]; kernel_rfl) | (rw [if_neg (by decide +kernel)]; exact ⟨rfl, rfl⟩))
  (fun os started H enc _ F => by rw [OpenClaim.pre_eq_preRow]; exact lifted os started H enc F)
theorem plain (f : FuncId) (fn : Func) (hf : Tryz.pinned.checked.prog.funcNamed Rows.journalTornUptoRow.func = some f) (hfn : Tryz.pinned.checked.prog.funcs[f]? = some fn) :
  false = Tryz.pinned.checked.prog.looks [] ∧ ∀ (j : Nat) t, fn.params[j]? = some t → Tryz.pinned.checked.prog.wantsStandIn t = false := by
 obtain rfl : f = 7 := Option.some.inj ((show Tryz.prog.funcNamed Rows.journalTornUptoRow.func = some 7 by kernel_rfl).symm.trans hf) |>.symm
 obtain rfl : fn = Tryz.f7 := (Option.some.inj (Tryz.func7.symm.trans hfn)).symm
 refine ⟨by kernel_rfl, fun j t ht => ?_⟩
 rw [Tryz.params7] at ht
 have hm := Array.mem_of_getElem? ht
 simp only [List.mem_toArray, List.mem_cons, List.not_mem_nil, or_false] at hm
 rcases hm with rfl | rfl
 all_goals
  change Tryz.prog.wantsStandIn _ = false
  kernel_rfl
end jtorn
theorem journalTorn_cardUpto : Rows.JournalTornUptoCardSaid :=
 Claim7.holds_tied_plain_at .later [] _ _ _ _ jtorn.said (fun _ h => by cases h) (by kernel_rfl) (fun _ h => by cases h) journalTornUpto_row_tie rfl ⟨rfl, rfl⟩ (by kernel_rfl) rfl jtorn.plain (by kernel_rfl)
end Go.Proofs.YtgdapkglofchjaaGreatDoor
