/- Typing: Parse. -/
import Derived.Test.YtgcpffbaejodiaaDoorTyPo
import Derived.Test.YtgcpffbaejodiaaDoorTyQ
namespace Go.Proofs.YtgcpffbaejodiaaDoor
open Go.RowKit
theorem int_infoT : Info Tryd.prog 3 (.int .i64 0) 1 8 := by unfold Info; kernel_rfl
def ksC (ks : List Nat) : List Value := ks.map (fun (k : Nat) => Value.int .i64 (k : Int))
theorem ksC_snoc (ks : List Nat) (k : Nat) : ksC (ks ++ [k]) = ksC ks ++ (#[Value.int .i64 (k : Int)] : Array Value).toList := by unfold ksC; rw [List.map_append]; rfl
/-- a type and an error, the type all new -/
def RetP (w : World) (v : VT) (er : Int) (e : Ending) (w' : World) : Prop := ∃ A n c, e = .returned (.tuple #[.agg #[.int .i64 (v.kind : Int), .slice A n c], .int .i64 er]) ∧ RV w' (fun b => w.heap.size ≤ b ∧ b < w'.heap.size) v [.int .i64 (v.kind : Int), .slice A n c] ∧ Below w.heap.size w w'
theorem retP_zero {w w' : World} {v : VT} {er x : Int} {e : Ending} (hv : v = VT.base 0) (he : er = x) (hb : Below w.heap.size w w') (h : e = .returned (.tuple #[.agg #[.int .i64 0, .slice none 0 0], .int .i64 x])) : RetP w v er e w' := by
 subst hv he
 exact ⟨none, 0, 0, h, rv_scalar _ _ 0, hb⟩
theorem parseV_none {s : List UInt8} (h : VT.parse s = none) : parseV s = .base 0 := by unfold parseV; rw [h]; split <;> rfl
theorem parseE_none {s : List UInt8} (hl : ¬ 4096 < s.length) (h : VT.parse s = none) : parseE s = 5 := by unfold parseE; rw [if_neg hl, h]
theorem parseV_long {s : List UInt8} (hl : 4096 < s.length) : parseV s = .base 0 := by unfold parseV; rw [if_pos hl]
theorem parseE_long {s : List UInt8} (hl : 4096 < s.length) : parseE s = 3 := by unfold parseE; rw [if_pos hl]
theorem parseV_deep {s : List UInt8} {v : VT} (h : VT.parse s = some v) (hd : ¬ v.depth ≤ 16) : parseV s = .base 0 := by
 unfold parseV; rw [h]; split
 ·
  rfl
 ·
  show (if v.depth ≤ 16 then v else .base 0) = _; rw [if_neg hd]
theorem parseE_deep {s : List UInt8} {v : VT} (hl : ¬ 4096 < s.length) (h : VT.parse s = some v) (hd : ¬ v.depth ≤ 16) : parseE s = 13 := by
 unfold parseE; rw [if_neg hl, h]; show (if v.depth ≤ 16 then (0 : Int) else 13) = _; rw [if_neg hd]
theorem parseV_some {s : List UInt8} {v : VT} (hl : ¬ 4096 < s.length) (h : VT.parse s = some v) (hd : v.depth ≤ 16) : parseV s = v := by
 unfold parseV; rw [if_neg hl, h]; show (if v.depth ≤ 16 then v else .base 0) = _; rw [if_pos hd]
theorem parseE_some {s : List UInt8} {v : VT} (hl : ¬ 4096 < s.length) (h : VT.parse s = some v) (hd : v.depth ≤ 16) : parseE s = 0 := by
 unfold parseE; rw [if_neg hl, h]; show (if v.depth ≤ 16 then (0 : Int) else 13) = _; rw [if_pos hd]
theorem row_cell {w : World} {B : Nat} {A : Option Addr} {n : Nat} {ks : List Nat} (h : SeqP w (fun b => b < B) 1 A n (ksC ks)) {i k : Nat} (hi : i < n) (hk : ks[i]? = some k) : ∃ b o, A = some ⟨b, o, none⟩ ∧ b < B ∧ w.cell? ⟨b, o + i, none⟩ = some (.int .i64 (k : Int)) := by
 obtain ⟨b, o, h1, h2, h3⟩ := h.2 (by omega)
 exact ⟨b, o, h1, h2, h3 i _ (by unfold ksC; rw [List.getElem?_map, hk]; rfl)⟩
set_option maxRecDepth 100000 in
set_option maxHeartbeats 6000000 in
theorem tparse_any (s : ByteArray) (w : World) : Calls Tryd.prog 26 #[.string s] w fun e w' => RetP w (parseV s.data.toList) (parseE s.data.toList) e w' := by
 have hsl := list_size s
 obtain ⟨pv, hpv⟩ : ∃ pv, pv = parseV s.data.toList := ⟨_, rfl⟩
 obtain ⟨pe, hpe⟩ : ∃ pe, pe = parseE s.data.toList := ⟨_, rfl⟩
 rw [← hpv, ← hpe]
 replace hpv := Lib.hid hpv
 replace hpe := Lib.hid hpe
 by_cases hl : 4096 < s.data.toList.length
 ·
  have gl : (4096 : Int) < (s.size : Int) := by omega
  go_enter Tryd.func26, Tryd.ntmps26
  go_upto_region 1 with (fail)
  generalize hx_ : World.alloc w _ = wo1
  have hO1 : OwnB w wo1 [(w.heap.size, [.int .i64 0, .slice none 0 0])] := by rw [← hx_]; exact (OwnB.refl w).new #[.int .i64 0, .slice none 0 0] _ (g := w.heap.size)
  clear hx_
  have c0_0 := hO1.c 0 0
  have c0_1 := hO1.c 0 1
  have cf0 := hO1.fr 0
  replace hl := Lib.hid hl
  repeat' ((fail_if_success at_builtin); (first | go_skip | go_guarded | go_step))
  generalize hx_ : World.setCell (World.setCell _ _ _) _ _ = wo2
  have hO2 : OwnB w wo2 [(w.heap.size, [.int .i64 0, .slice none 0 0])] := by rw [← hx_]; exact (hO1.store 0 rfl 0 _).store 0 rfl 1 _
  clear hx_ c0_0 c0_1 cf0 hO1
  have c0_0 := hO2.c 0 0
  have c0_1 := hO2.c 0 1
  have cf0 := hO2.fr 0
  have hb := hO2.below
  refine bodyPost_ret (v := .tuple #[.agg #[.int .i64 0, .slice none 0 0], .int .i64 3]) (by simp only [results, Tryd.results26]; go_simp; first | done | exact ⟨rfl, rfl, rfl⟩ | rfl) rfl ?_
  exact retP_zero (by rw [hpv.out]; exact parseV_long hl.out) (by rw [hpe.out]; exact parseE_long hl.out) hb rfl
 have gl : ¬ (4096 : Int) < (s.size : Int) := by omega
 go_enter Tryd.func26, Tryd.ntmps26
 go_upto_region 1 with (fail)
 generalize hx_ : World.alloc w _ = wo1
 have hO1 : OwnB w wo1 [(w.heap.size, [.int .i64 0, .slice none 0 0])] := by rw [← hx_]; exact (OwnB.refl w).new #[.int .i64 0, .slice none 0 0] _ (g := w.heap.size)
 clear hx_
 have c0_0 := hO1.c 0 0
 have c0_1 := hO1.c 0 1
 have cf0 := hO1.fr 0
 have hcz : CellsAt wo1 w.heap.size [.int .i64 0, .slice none 0 0] := (hO1.all 0 _ _ rfl).2
 have hbz := hO1.below
 replace hl := Lib.hid hl
 repeat' ((fail_if_success at_builtin); (first | go_skip | go_guarded | go_step))
 go_loopw [0, 4] (fun u0 u4 wr => ∃ (x : ByteArray) (ks : List Nat) (A : Option Addr) (c : Nat), u0 = .string x ∧ u4 = .slice A ks.length c ∧ Own wo1 wr 3 1 (.slice A ks.length c) ks.length (ksC ks) ∧ x.size + ks.length ≤ s.size ∧ (∀ k ∈ ks, k = 5 ∨ k = 6) ∧ VT.parse s.data.toList = (VT.parse x.data.toList).map (VT.wrapK ks)) (fun u0 _ _ => slen u0)
 case atStart => exact ⟨s, [], none, 0, rfl, rfl, Own.nil_ wo1 _ _, by simp, by simp, by cases VT.parse s.data.toList <;> rfl⟩
 case round =>
  clear c0_0 c0_1 cf0 hO1
  obtain ⟨x, ks, A, c, rfl, rfl, hO, hlen, hks, hpx⟩ := hrel
  have hxl := list_size x
  replace hpx := Lib.hid hpx
  replace hks := Lib.hid hks
  repeat' ((fail_if_success at_builtin); (first | go_skip | go_guarded | go_step))
  refine (opened_any x _ (by omega)).mono ?_
  rintro e w2 ⟨rfl, hb2⟩
  have hO2 := hO.below hb2
  clear hO hb2
  cases ho : VT.opened x.data.toList with
  | some ke =>
   obtain ⟨k, el⟩ := ke
   have hR : openedR x.data.toList = .tuple #[.int .i64 (k : Int), .string (strS el)] := by unfold openedR; rw [ho]
   have hk := (VT.opened_eq ho).1
   have hsh := VT.opened_short ho
   rw [hR]
   dsimp only
   have gk : ((k : Int) == 8) = false := by simp; omega
   replace hk := Lib.hid hk
   replace ho := Lib.hid ho
   clear hR
   repeat' ((fail_if_success at_builtin); (first | go_skip | go_guarded | go_step))
   refine wp_app1 hO2 Tryd.underlying55 int_infoT (by omega) ?_
   intro v3 w3 hO3 _
   rw [← ksC_snoc] at hO3
   have hln : (ks ++ [k]).length = ks.length + 1 := by simp
   rw [← hln] at hO3
   obtain ⟨A3, c3, rfl⟩ := Own.slice_form hO3
   repeat' ((fail_if_success at_builtin); (first | go_skip | go_guarded | go_step))
   go_roundw
   case rel => exact ⟨strS el, ks ++ [k], A3, c3, rfl, by rw [hln], hO3, by rw [strS_size, hln]; omega, fun j hj => (List.mem_append.1 hj).elim (hks.out j) (fun e => by rw [List.mem_singleton.1 e]; exact hk.out), VT.parse_wrap hpx.out ho.out⟩
   case measure =>
    show (strS el).size < x.size
    rw [strS_size]; omega
  | none =>
   have hR : openedR x.data.toList = .tuple #[.int .i64 8, .string (strS [])] := by unfold openedR; rw [ho]
   rw [hR]
   dsimp only
   clear hR
   have hpb := VT.parse_base ho
   replace hpb := Lib.hid hpb
   clear ho
   repeat' ((fail_if_success at_builtin); (first | go_skip | go_guarded | go_step))
   go_loopw [26] (fun u26 wr => ∃ i : Nat, i ≤ 8 ∧ u26 = .int .i64 (i : Int) ∧ Own wo1 wr 3 1 (.slice A ks.length c) ks.length (ksC ks) ∧ ∀ j, j < i → j ≠ 5 → j ≠ 6 → VT.nameK j ≠ x.data.toList) (fun u26 _ => 8 - (intOf u26).toNat)
   case atStart => exact ⟨0, by omega, rfl, hO2, fun j h => absurd h (by omega)⟩
   case round =>
    clear hO2
    obtain ⟨i, hi, rfl, hO3, hno⟩ := hrel
    have hcr := hcz.kept hO3.2
    have hbr := hbz.trans (hO3.2.mono hbz.size)
    have hqq : OwnB w wr [(w.heap.size, [.int .i64 0, .slice none 0 0])] := (OwnB.of hbr).push (Nat.le_refl _) hcr (fun i b x h => by simp at h)
    have c0_0 := hqq.c 0 0
    have c0_1 := hqq.c 0 1
    have cf0 := hqq.fr 0
    have i1 : (0 : Int) ≤ (i : Int) := by omega
    have i2 : IntKind.i64.wrap ((i : Int) + 1) = ((i + 1 : Nat) : Int) := by rw [IntWalk.i64_in _ (by omega)]; omega
    by_cases hlt : i < 8
    ·
     have i3 : (i : Int) < 8 := by omega
     repeat' ((fail_if_success at_builtin); (first | go_skip | go_guarded | go_step))
     refine (nested_any (i : Int) _).mono ?_
     rintro e w3 ⟨rfl, hb3⟩
     dsimp only
     have hO4 := hO3.below hb3
     have hq4 := hqq.kept hb3
     clear c0_0 c0_1 cf0
     have c0_0 := hq4.c 0 0
     have c0_1 := hq4.c 0 1
     have cf0 := hq4.fr 0
     by_cases h56 : i = 5 ∨ i = 6
     ·
      have hh : holdsK (i : Int) = true := by unfold holdsK; simp; omega
      rw [hh]
      clear hh
      replace h56 := Lib.hid h56
      repeat' ((fail_if_success at_builtin); (first | go_skip | go_guarded | go_step))
      go_roundw
      case rel => exact ⟨i + 1, by omega, by first | rfl | go_num, hO4, fun j hj h5 h6 => by
       rcases Nat.lt_or_eq_of_le (Nat.le_of_lt_succ hj) with h | h
       ·
        exact hno j h h5 h6
       ·
        subst h; have := h56.out; omega⟩
      case measure => (try go_num); (try simp [intOf]); (try omega)
     ·
      have hh : holdsK (i : Int) = false := by unfold holdsK; simp; omega
      rw [hh]
      clear hh
      repeat' ((fail_if_success at_builtin); (first | go_skip | go_guarded | go_step))
      refine (name_any (i : Int) _).mono ?_
      rintro e w4 ⟨rfl, hb4⟩
      rw [nameZ_nat (show i ≤ 7 by omega)]
      dsimp only
      have hO5 := hO4.below hb4
      have hq5 := hq4.kept hb4
      clear c0_0 c0_1 cf0
      have c0_0 := hq5.c 0 0
      have c0_1 := hq5.c 0 1
      have cf0 := hq5.fr 0
      by_cases hx : VT.nameK i = x.data.toList
      ·
       have hbk : VT.baseK x.data.toList = some i := by rw [← hx]; exact VT.baseK_mk (by omega) (by omega) (by omega)
       have hps : VT.parse s.data.toList = some (VT.wrapK ks (.base i)) := by rw [hpx.out, hpb.out, hbk]; rfl
       have hdp : (VT.wrapK ks (.base i)).depth = ks.length + 1 := VT.wrapK_depth ks _
       have hq1 : ((strS (VT.nameK i)).toList == x.toList) = true := by rw [strS_toList, ByteArray.toList_eq, hx]; simp
       have hq2 : (strS (VT.nameK i)).toList = x.toList := by simpa using hq1
       have hq3 : ((strS (VT.nameK i)).toList != x.toList) = false := by rw [bne, hq1]; rfl
       have hq4 : (VT.nameK i == x.toList) = true := by rw [ByteArray.toList_eq, hx]; simp
       generalize VT.nameK i = nm at *
       replace hps := Lib.hid hps
       clear hbk hno hx
       replace hq2 := Lib.hid hq2
       by_cases h16 : 16 ≤ ks.length
       ·
        have g16 : (16 : Int) ≤ (ks.length : Int) := by omega
        have hdeep : ¬ (VT.wrapK ks (.base i)).depth ≤ 16 := by omega
        replace hdeep := Lib.hid hdeep
        repeat' ((fail_if_success at_builtin); (first | go_skip | go_guarded | go_step))
        generalize hx_ : World.setCell (World.setCell _ _ _) _ _ = wo6
        have hq6 : OwnB w wo6 [(w.heap.size, [.int .i64 0, .slice none 0 0])] := by rw [← hx_]; exact (hq5.store 0 rfl 0 _).store 0 rfl 1 _
        clear hx_ c0_0 c0_1 cf0 hq5
        have c0_0 := hq6.c 0 0
        have c0_1 := hq6.c 0 1
        have cf0 := hq6.fr 0
        have hb := hq6.below
        refine bodyPost_ret (v := .tuple #[.agg #[.int .i64 0, .slice none 0 0], .int .i64 13]) (by simp only [results, Tryd.results26]; go_simp; first | done | exact ⟨rfl, rfl, rfl⟩ | rfl) rfl ?_
        exact retP_zero (by rw [hpv.out]; exact parseV_deep hps.out hdeep.out) (by rw [hpe.out]; exact parseE_deep hl.out hps.out hdeep.out) hb rfl
       ·
        have g16 : ¬ (16 : Int) ≤ (ks.length : Int) := by omega
        have hdeep : (VT.wrapK ks (.base i)).depth ≤ 16 := by omega
        replace hdeep := Lib.hid hdeep
        replace hdp := Lib.hid hdp
        repeat' ((fail_if_success at_builtin); (first | go_skip | go_guarded | go_step))
        refine (scalar_any (i : Int) _).mono ?_
        rintro e w5 ⟨rfl, hb5⟩
        dsimp only
        have hO6 := hO5.below hb5
        have hq6 := hq5.kept hb5
        clear c0_0 c0_1 cf0
        have c0_0 := hq6.c 0 0
        have c0_1 := hq6.c 0 1
        have cf0 := hq6.fr 0
        go_upto_region 15 with (fail)
        generalize hx_ : World.alloc w5 _ = wp1
        have hp1 : OwnB w5 wp1 [(w5.heap.size, [.int .i64 (i : Int), .slice none 0 0])] := by rw [← hx_]; exact (OwnB.refl w5).new #[.int .i64 (i : Int), .slice none 0 0] _ (g := w5.heap.size)
        have hw6 : w5.heap.size < wp1.heap.size := by rw [← hx_]; simp
        clear hx_
        have e0_0 : wp1.cell? ⟨w5.heap.size, 0, none⟩ = some (.int .i64 (i : Int)) := hp1.c 0 0
        have e0_1 : wp1.cell? ⟨w5.heap.size, 1, none⟩ = some (.slice none 0 0) := hp1.c 0 1
        have ef0 := hp1.fr 0
        have hj0 : IntKind.i64.wrap ((ks.length : Int) - 1) = (ks.length : Int) - 1 := IntWalk.i64_in _ (by omega)
        repeat' ((fail_if_success at_builtin); (first | go_skip | go_guarded | go_step))
        go_loopw [9] (fun u9 wr => ∃ (m : Nat) (z : Int), m ≤ ks.length ∧ z = (m : Int) - 1 ∧ u9 = .int .i64 z ∧ ∃ A7 n7 c7, OwnB w5 wr [(w5.heap.size, [.int .i64 ((VT.wrapK (ks.drop m) (.base i)).kind : Int), .slice A7 n7 c7])] ∧ w5.heap.size < wr.heap.size ∧ RV wr (fun b => w5.heap.size < b ∧ b < wr.heap.size) (VT.wrapK (ks.drop m) (.base i)) [.int .i64 ((VT.wrapK (ks.drop m) (.base i)).kind : Int), .slice A7 n7 c7]) (fun u9 _ => (intOf u9 + 1).toNat)
        case atStart =>
         refine ⟨ks.length, (ks.length : Int) - 1, Nat.le_refl _, rfl, rfl, none, 0, 0, ?_⟩
         rw [List.drop_length]
         exact ⟨hp1, hw6, rv_scalar _ _ i⟩
        case round =>
         clear e0_0 e0_1 ef0 hp1 hw6 c0_0 c0_1 cf0
         obtain ⟨m, z, hm, hz, rfl, A7, n7, c7, hp2, hsz, hra⟩ := hrel
         have hq7 := hq6.kept hp2.below
         have hsq := (Own.seq hO6).below hp2.below
         have hlo6 := hO6.2.size
         have hlo1 := hbz.size
         have hw56 := hq6.below.size
         replace hsq := Lib.hid hsq
         cases m with
         | zero =>
          obtain rfl : z = -1 := by omega
          clear hz
          rw [List.drop_zero] at hp2 hra
          generalize hvx : VT.wrapK ks (.base i) = vx at *
          replace hvx := Lib.hid hvx
          replace hra := Lib.hid hra
          have d0_0 : wr.cell? ⟨w5.heap.size, 0, none⟩ = some (.int .i64 (vx.kind : Int)) := hp2.c 0 0
          have d0_1 : wr.cell? ⟨w5.heap.size, 1, none⟩ = some (.slice A7 n7 c7) := hp2.c 0 1
          have df0 := hp2.fr 0
          have c0_0 := hq7.c 0 0
          have c0_1 := hq7.c 0 1
          have cf0 := hq7.fr 0
          repeat' ((fail_if_success at_builtin); (first | go_skip | go_guarded | go_step))
          have hr8 := RV.set2 (g := w.heap.size) (.int .i64 (vx.kind : Int)) (.slice A7 n7 c7) (fun b h => by have := h.1; omega) hra.out
          have hs8 : ((wr.setCell ⟨w.heap.size, 0, none⟩ (.int .i64 (vx.kind : Int))).setCell ⟨w.heap.size, 1, none⟩ (.slice A7 n7 c7)).heap.size = wr.heap.size := by simp [World.setCell]
          generalize hx_ : World.setCell (World.setCell _ _ _) _ _ = w8 at hr8 hs8 ⊢
          have hO8 : OwnB w w8 [(w.heap.size, [.int .i64 (vx.kind : Int), .slice A7 n7 c7])] := by rw [← hx_]; exact (hq7.store 0 rfl 0 _).store 0 rfl 1 _
          clear hx_ c0_0 c0_1 cf0
          have c0_0 := hO8.c 0 0
          have c0_1 := hO8.c 0 1
          have cf0 := hO8.fr 0
          have hb := hO8.below
          refine bodyPost_ret (v := .tuple #[.agg #[.int .i64 (vx.kind : Int), .slice A7 n7 c7], .int .i64 0]) (by simp only [results, Tryd.results26]; go_simp; first | done | exact ⟨rfl, rfl, rfl⟩ | rfl) rfl ?_
          have e1 : pv = vx := by rw [hpv.out]; exact parseV_some hl.out hps.out hdeep.out
          have e2 : pe = 0 := by rw [hpe.out]; exact parseE_some hl.out hps.out hdeep.out
          rw [e1, e2]
          exact ⟨A7, n7, c7, rfl, hr8.imp (fun b h => ⟨by have := h.1; omega, by have := h.2; omega⟩), hb⟩
         | succ m' =>
          obtain rfl : z = (m' : Int) := by omega
          clear hz
          have j1 : (0 : Int) ≤ (m' : Int) := by omega
          have j2 : (m' : Int) < (ks.length : Int) := by omega
          have j3 : IntKind.i64.wrap ((m' : Int) - 1) = (m' : Int) - 1 := IntWalk.i64_in _ (by omega)
          obtain ⟨k, hk⟩ : ∃ k, ks[m']? = some k := ⟨_, List.getElem?_eq_getElem (by omega)⟩
          have hdr : VT.wrapK (ks.drop m') (.base i) = .of k (VT.wrapK (ks.drop (m' + 1)) (.base i)) := by
           obtain ⟨h1, h2⟩ := List.getElem?_eq_some_iff.1 hk
           rw [List.drop_eq_getElem_cons h1, h2]
           rfl
          obtain ⟨bo, oo, rfl, hbo, hck⟩ := row_cell hsq.out (by omega) hk
          generalize VT.wrapK (ks.drop (m' + 1)) (.base i) = vx at *
          replace hdr := Lib.hid hdr
          replace hk := Lib.hid hk
          replace hra := Lib.hid hra
          go_upto_region 18 with (fail)
          have hp3 := hp2.kept ((Below.refl wr.heap.size wr).drew)
          have d0_0 : wr.drew.cell? ⟨w5.heap.size, 0, none⟩ = some (.int .i64 (vx.kind : Int)) := hp3.c 0 0
          have d0_1 : wr.drew.cell? ⟨w5.heap.size, 1, none⟩ = some (.slice A7 n7 c7) := hp3.c 0 1
          have df0 := hp3.fr 0
          have yk : wr.drew.cell? ⟨bo, oo + m', none⟩ = some (.int .i64 (k : Int)) := hck
          have hra3 : RV wr.drew (fun b => w5.heap.size < b ∧ b < wr.drew.heap.size) vx [.int .i64 (vx.kind : Int), .slice A7 n7 c7] := RV.at_ hra.out (fun b h => h.2) ((Below.refl wr.heap.size wr).drew)
          have hgd : wr.heap.size ≤ wr.drew.heap.size := Nat.le_refl _
          clear hra hck hp2
          refine wp_region_held_drew (S := fun _ => True) (by kernel_rfl) trivial (fun hHeld => ?_)
          refine tkY 0 (v := ?v18) rfl (.inl ⟨by rfl, ?hy18⟩) ?rest18
          case hy18 => (intro w hSw; (try dsimp only at hSw); go_simp; try with_reducible rfl)
          simp only [Act.put, List.getElem_toArray, List.getElem_cons_zero, List.setIfInBounds_toArray, List.set_cons_zero, List.set_cons_succ]
          refine tkY 1 (v := ?v19) rfl (.inl ⟨by rfl, ?hy19⟩) ?rest19
          case hy19 => (intro w hSw; (try dsimp only at hSw); go_simp; try with_reducible rfl)
          simp only [Act.put, List.getElem_toArray, List.getElem_cons_zero, List.getElem_cons_succ, List.setIfInBounds_toArray, List.set_cons_zero, List.set_cons_succ]
          refine tkY 2 (v := ?v20) rfl (.inl ⟨by rfl, ?hy20⟩) ?rest20
          case hy20 => (intro w hSw; (try dsimp only at hSw); go_simp; try with_reducible rfl)
          simp only [Act.put, List.getElem_toArray, List.getElem_cons_zero, List.getElem_cons_succ, List.setIfInBounds_toArray, List.set_cons_zero, List.set_cons_succ]
          refine wpAnyH_ready (rs := [3, 4]) (by kernel_rfl) (by simp) ?_
          refine AllReadyH.cons rfl (fun K hK => ?_) ?_
          ·
           go_simp
           refine hK.out _ _ trivial (fun hHeld => ?_)
           clear hK K
           try simp only [Act.put, List.getElem_toArray, List.getElem_cons_zero, List.getElem_cons_succ, List.setIfInBounds_toArray, List.set_cons_zero, List.set_cons_succ]
           refine wpAnyH_ready (rs := [4]) (by kernel_rfl) (by simp) ?_
           refine AllReadyH.cons rfl (fun K hK => ?_) ?_
           ·
            go_simp
            refine hK.out _ _ trivial (fun hHeld => ?_)
            clear hK K
            try simp only [Act.put, List.getElem_toArray, List.getElem_cons_zero, List.getElem_cons_succ, List.setIfInBounds_toArray, List.set_cons_zero, List.set_cons_succ]
            refine wpAnyH_ready (rs := [5]) (by kernel_rfl) (by simp) ?_
            refine AllReadyH.cons rfl (fun K hK => ?_) ?_
            ·
             go_simp
             go_at_call 49
             refine (of_any (k : Int) (vx.kind : Int) A7 n7 c7 _).mono ?_
             rintro e8 w8 ⟨g8, rfl, hg8, hC8, hb8⟩
             dsimp only
             have hp8 := hp3.kept hb8
             have z0 := hp8.c 0 0
             have z1 := hp8.c 0 1
             have zf := hp8.fr 0
             have hs8 := hb8.size
             have hlt8 := hC8.lt
             refine hK.out _ _ trivial (fun hHeld => ?_)
             clear hK K
             try simp only [Act.put, List.getElem_toArray, List.getElem_cons_zero, List.getElem_cons_succ, List.setIfInBounds_toArray, List.set_cons_zero, List.set_cons_succ]
             refine wpAnyH_ready (rs := [6]) (by kernel_rfl) (by simp) ?_
             refine AllReadyH.cons rfl (fun K hK => ?_) ?_
             ·
              go_simp
              refine hK.out _ _ trivial (fun hHeld => ?_)
              clear hK K
              try simp only [Act.put, List.getElem_toArray, List.getElem_cons_zero, List.getElem_cons_succ, List.setIfInBounds_toArray, List.set_cons_zero, List.set_cons_succ]
              refine wpAnyH_done (by kernel_rfl) ?_ _
              have hp9 := (hp8.store 0 rfl 0 (.int .i64 (k : Int))).store 0 rfl 1 (.slice (some ⟨g8, 0, none⟩) 1 1)
              have hC9 := cells_back (b4 := w5.heap.size) (.int .i64 (k : Int)) (.slice (some ⟨g8, 0, none⟩) 1 1) hC8 (by omega)
              have hr9 := RV.set2 (g := w5.heap.size) (.int .i64 (k : Int)) (.slice (some ⟨g8, 0, none⟩) 1 1) (fun b h => by have := h.1; omega) (RV.at_ hra3 (fun b h => h.2) hb8)
              generalize hx_ : World.setCell (World.setCell w8 _ _) _ _ = w9 at hp9 hC9 hr9 ⊢
              have hs9 : w9.heap.size = w8.heap.size := by rw [← hx_]; simp [World.setCell]
              clear hx_ z0 z1 zf hHeld
              repeat' ((fail_if_success at_builtin); (first | go_skip | go_guarded | go_step))
              go_roundw
              case rel =>
               refine ⟨m', (m' : Int) - 1, by omega, rfl, rfl, some ⟨g8, 0, none⟩, 1, 1, ?_⟩
               rw [hdr.out]
               exact ⟨hp9, by omega, rv_mk hC9 ⟨by omega, by omega⟩ (hr9.imp (fun b h => ⟨h.1, by have := h.2; omega⟩))⟩
              case measure => (try go_num); (try simp [intOf]); (try omega)
             exact AllReadyH.nil
            exact AllReadyH.nil
           exact AllReadyH.nil
          refine AllReadyH.cons rfl (fun K hK => ?_) ?_
          ·
           go_simp
           refine hK.out _ _ trivial (fun hHeld => ?_)
           clear hK K
           try simp only [Act.put, List.getElem_toArray, List.getElem_cons_zero, List.getElem_cons_succ, List.setIfInBounds_toArray, List.set_cons_zero, List.set_cons_succ]
           refine wpAnyH_ready (rs := [3]) (by kernel_rfl) (by simp) ?_
           refine AllReadyH.cons rfl (fun K hK => ?_) ?_
           ·
            go_simp
            refine hK.out _ _ trivial (fun hHeld => ?_)
            clear hK K
            try simp only [Act.put, List.getElem_toArray, List.getElem_cons_zero, List.getElem_cons_succ, List.setIfInBounds_toArray, List.set_cons_zero, List.set_cons_succ]
            refine wpAnyH_ready (rs := [5]) (by kernel_rfl) (by simp) ?_
            refine AllReadyH.cons rfl (fun K hK => ?_) ?_
            ·
             go_simp
             go_at_call 49
             refine (of_any (k : Int) (vx.kind : Int) A7 n7 c7 _).mono ?_
             rintro e8 w8 ⟨g8, rfl, hg8, hC8, hb8⟩
             dsimp only
             have hp8 := hp3.kept hb8
             have z0 := hp8.c 0 0
             have z1 := hp8.c 0 1
             have zf := hp8.fr 0
             have hs8 := hb8.size
             have hlt8 := hC8.lt
             refine hK.out _ _ trivial (fun hHeld => ?_)
             clear hK K
             try simp only [Act.put, List.getElem_toArray, List.getElem_cons_zero, List.getElem_cons_succ, List.setIfInBounds_toArray, List.set_cons_zero, List.set_cons_succ]
             refine wpAnyH_ready (rs := [6]) (by kernel_rfl) (by simp) ?_
             refine AllReadyH.cons rfl (fun K hK => ?_) ?_
             ·
              go_simp
              refine hK.out _ _ trivial (fun hHeld => ?_)
              clear hK K
              try simp only [Act.put, List.getElem_toArray, List.getElem_cons_zero, List.getElem_cons_succ, List.setIfInBounds_toArray, List.set_cons_zero, List.set_cons_succ]
              refine wpAnyH_done (by kernel_rfl) ?_ _
              have hp9 := (hp8.store 0 rfl 0 (.int .i64 (k : Int))).store 0 rfl 1 (.slice (some ⟨g8, 0, none⟩) 1 1)
              have hC9 := cells_back (b4 := w5.heap.size) (.int .i64 (k : Int)) (.slice (some ⟨g8, 0, none⟩) 1 1) hC8 (by omega)
              have hr9 := RV.set2 (g := w5.heap.size) (.int .i64 (k : Int)) (.slice (some ⟨g8, 0, none⟩) 1 1) (fun b h => by have := h.1; omega) (RV.at_ hra3 (fun b h => h.2) hb8)
              generalize hx_ : World.setCell (World.setCell w8 _ _) _ _ = w9 at hp9 hC9 hr9 ⊢
              have hs9 : w9.heap.size = w8.heap.size := by rw [← hx_]; simp [World.setCell]
              clear hx_ z0 z1 zf hHeld
              repeat' ((fail_if_success at_builtin); (first | go_skip | go_guarded | go_step))
              go_roundw
              case rel =>
               refine ⟨m', (m' : Int) - 1, by omega, rfl, rfl, some ⟨g8, 0, none⟩, 1, 1, ?_⟩
               rw [hdr.out]
               exact ⟨hp9, by omega, rv_mk hC9 ⟨by omega, by omega⟩ (hr9.imp (fun b h => ⟨h.1, by have := h.2; omega⟩))⟩
              case measure => (try go_num); (try simp [intOf]); (try omega)
             exact AllReadyH.nil
            exact AllReadyH.nil
           exact AllReadyH.nil
          exact AllReadyH.nil
      ·
       have hq1 : ((strS (VT.nameK i)).toList == x.toList) = false := by
        rw [strS_toList, ByteArray.toList_eq, beq_eq_false_iff_ne]
        exact hx
       have hq2 : ¬ (strS (VT.nameK i)).toList = x.toList := by simpa using hq1
       have hq3 : ((strS (VT.nameK i)).toList != x.toList) = true := by rw [bne, hq1]; rfl
       have hq4 : (VT.nameK i == x.toList) = false := by rw [ByteArray.toList_eq, beq_eq_false_iff_ne]; exact hx
       have hno2 : ∀ j, j < i + 1 → j ≠ 5 → j ≠ 6 → VT.nameK j ≠ x.data.toList := fun j hj h5 h6 => by
        rcases Nat.lt_or_eq_of_le (Nat.le_of_lt_succ hj) with h | h
        ·
         exact hno j h h5 h6
        ·
         subst h; exact hx
       generalize VT.nameK i = nm at *
       replace hno2 := Lib.hid hno2
       clear hno hx
       repeat' ((fail_if_success at_builtin); (first | go_skip | go_guarded | go_step))
       go_roundw
       case rel => exact ⟨i + 1, by omega, by first | rfl | go_num, hO5, hno2.out⟩
       case measure => (try go_num); (try simp [intOf]); (try omega)
    ·
     obtain rfl : i = 8 := by omega
     have i3 : ¬ ((8 : Nat) : Int) < 8 := by omega
     have hps : VT.parse s.data.toList = none := by rw [hpx.out, hpb.out, VT.baseK_none (fun j h7 h5 h6 => hno j (by omega) h5 h6)]; rfl
     replace hps := Lib.hid hps
     clear hno
     have hqq0 := hqq
     repeat' ((fail_if_success at_builtin); (first | go_skip | go_guarded | go_step))
     generalize hx_ : World.setCell (World.setCell _ _ _) _ _ = wo1
     have hqq1 : OwnB w wo1 [(w.heap.size, [.int .i64 0, .slice none 0 0])] := by rw [← hx_]; exact (hqq0.store 0 rfl 0 _).store 0 rfl 1 _
     clear hx_ c0_0 c0_1 cf0 hqq0
     have c0_0 := hqq1.c 0 0
     have c0_1 := hqq1.c 0 1
     have cf0 := hqq1.fr 0
     have hb := hqq1.below
     refine bodyPost_ret (v := .tuple #[.agg #[.int .i64 0, .slice none 0 0], .int .i64 5]) (by simp only [results, Tryd.results26]; go_simp; first | done | exact ⟨rfl, rfl, rfl⟩ | rfl) rfl ?_
     exact retP_zero (by rw [hpv.out]; exact parseV_none hps.out) (by rw [hpe.out]; exact parseE_none hl.out hps.out) hb rfl
end Go.Proofs.YtgcpffbaejodiaaDoor
