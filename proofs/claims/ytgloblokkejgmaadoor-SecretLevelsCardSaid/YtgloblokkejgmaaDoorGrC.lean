/- The document's classes: the walk. -/
import Derived.Test.YtgloblokkejgmaaDoorGrW
import Derived.BigRegion
namespace Go.Proofs.YtgloblokkejgmaaDoor
open Go.RowKit
theorem own_any {w : World} {base : Nat} {e : TypeId} {size n : Nat} {v : Value} {xs : List Value} (h : w.ownsRow base e size v n xs) (hb : base ≤ w.heap.size) : ∃ W0 : World, W0.heap.size = base ∧ Own W0 w e size v n xs := by
  have hz : (w.heap.extract 0 base).size = base := by rw [Array.size_extract]; omega
  refine ⟨{ w with heap := w.heap.extract 0 base }, hz, ?_, ⟨rfl, rfl, rfl, ?_, fun k hk => ?_⟩⟩
  · show w.ownsRow (w.heap.extract 0 base).size e size v n xs
    rw [hz]; exact h
  · show (w.heap.extract 0 base).size ≤ w.heap.size
    omega
  · have hk' : k < (w.heap.extract 0 base).size := hk
    show w.heap[k]? = (w.heap.extract 0 base)[k]?
    rw [Array.getElem?_extract]
    simp
    omega
theorem seqp_own {w : World} {base B : Nat} {e : TypeId} {sz n c : Nat} {A : Option Addr} {xs : List Value} (h : w.ownsRow base e sz (.slice A n c) n xs) (hB : B ≤ base) : SeqP w (fun g => B ≤ g ∧ g < w.heap.size) sz A n xs := by
  have hq := Seq.of_own h
  refine ⟨hq.1, fun hn => ?_⟩
  obtain ⟨b, o, rfl, hb, hc⟩ := hq.2 hn
  refine ⟨b, o, rfl, ⟨?_, hb⟩, hc⟩
  have := (h.lt b rfl).1
  omega
/-- what class returns: the element's kind is 4 -/
def RetCl (w : World) (r : Option (List (Nat × Nat) × Nat)) (b : Nat) (e : Ending) (w' : World) : Prop := ∃ (it : List (Nat × Nat)) (A : Option Addr) (c n : Nat) (ok : Bool), e = .returned (.tuple #[.agg #[.int .i64 4, .slice A it.length c], .int .i64 (n : Int), .bool ok]) ∧ (r = none → ok = false) ∧ (∀ it' m, r = some (it', m) → it = it' ∧ n = b + m ∧ ok = true) ∧ Below w.heap.size w w' ∧ SeqP w' (fun g => w.heap.size ≤ g ∧ g < w'.heap.size) 2 A it.length (icells it)
theorem b2_info : Info Tryd.prog 114 (.agg #[.int .u8 0, .int .u8 0]) 2 2 := by unfold Info; kernel_rfl
structure CInv (w wr : World) (v : Value) (it : List (Nat × Nat)) : Prop where
  own : wr.ownsRow (w.heap.size + 2) 114 2 v it.length (icells it)
  below : Below w.heap.size w wr
  size : w.heap.size + 2 ≤ wr.heap.size
  e0 : wr.cell? ⟨w.heap.size + 1, 0, none⟩ = some (.int .i64 4)
  e1 : wr.cell? ⟨w.heap.size + 1, 1, none⟩ = some v
  r0 : wr.cell? ⟨w.heap.size, 0, none⟩ = some (.int .i64 0)
  r1 : wr.cell? ⟨w.heap.size, 1, none⟩ = some (.slice none 0 0)
  fz : ∀ o, wr.frozen? ⟨w.heap.size, o, none⟩ = false
  fe : ∀ o, wr.frozen? ⟨w.heap.size + 1, o, none⟩ = false
theorem last_93 {l : List UInt8} {k : Nat} : lastN l k = 93 ↔ l[k]?.map UInt8.toNat = some 93 := by
  unfold lastN
  cases l[k]? with
  | none => simp
  | some c => simp
theorem last_45 {l : List UInt8} {k : Nat} : lastN l k = 45 ↔ l[k]?.map UInt8.toNat = some 45 := by
  unfold lastN
  cases l[k]? with
  | none => simp
  | some c => simp
theorem CInv.at {w : World} {v : Value} {it : List (Nat × Nat)} {wr wr' : World} (h : CInv w wr v it) (hb : Below wr.heap.size wr wr') : CInv w wr' v it where
  own := h.own.kept (row := none) ⟨hb.os, hb.tape, hb.output, hb.size, fun k hk _ => hb.block k hk⟩ (by cases hv : v.ownBlock <;> simp)
  below := h.below.trans (hb.mono (by have := h.size; omega))
  size := Nat.le_trans h.size hb.size
  e0 := (hb.cell (by have := h.size; show w.heap.size + 1 < _; omega)).trans h.e0
  e1 := (hb.cell (by have := h.size; show w.heap.size + 1 < _; omega)).trans h.e1
  r0 := (hb.cell (by have := h.size; show w.heap.size < _; omega)).trans h.r0
  r1 := (hb.cell (by have := h.size; show w.heap.size < _; omega)).trans h.r1
  fz := fun o => (hb.frozen (by have := h.size; show w.heap.size < _; omega)).trans (h.fz o)
  fe := fun o => (hb.frozen (by have := h.size; show w.heap.size + 1 < _; omega)).trans (h.fe o)
/-- the append and the store of what it returned -/
theorem CInv.app {w wr w3 : World} {v v3 : Value} {it : List (Nat × Nat)} {x y : Nat} (h : CInv w wr v it) (ho : w3.ownsRow (w.heap.size + 2) 114 2 v3 (it.length + 1) (icells it ++ [.int .u8 (x : Int), .int .u8 (y : Int)])) (hB : Below (w.heap.size + 2) wr w3) :
    CInv w (w3.setCell ⟨w.heap.size + 1, 1, none⟩ v3) v3 (it ++ [(x, y)]) := by
  have hz := hB.size
  have hs := h.size
  have cc : ∀ b o, b < w.heap.size + 2 → w3.cell? ⟨b, o, none⟩ = wr.cell? ⟨b, o, none⟩ := fun b o hb => hB.cell (p := ⟨b, o, none⟩) hb
  have ff : ∀ b o, b < w.heap.size + 2 → w3.frozen? ⟨b, o, none⟩ = wr.frozen? ⟨b, o, none⟩ := fun b o hb => hB.frozen (p := ⟨b, o, none⟩) hb
  have e1' := (cc (w.heap.size + 1) 1 (by omega)).trans h.e1
  refine ⟨?_, ?_, ?_, ?_, ?_, ?_, ?_, ?_, ?_⟩
  · have := ownsRow_setCell_below ho (a := ⟨w.heap.size + 1, 1, none⟩) (by show w.heap.size + 1 < _; omega) v3
    simpa [icells] using this
  · exact (h.below.trans (hB.mono (by omega))).setCell (by show w.heap.size ≤ w.heap.size + 1; omega) _
  · simp; omega
  · rw [World.cell?_setCell_other w3 _ _ _ (by simp)]; exact (cc _ _ (by omega)).trans h.e0
  · exact World.cell?_setCell_same w3 _ _ e1'
  · rw [World.cell?_setCell_other w3 _ _ _ (by simp)]; exact (cc _ _ (by omega)).trans h.r0
  · rw [World.cell?_setCell_other w3 _ _ _ (by simp)]; exact (cc _ _ (by omega)).trans h.r1
  · intro o; rw [World.frozen?_setCell]; exact (ff _ _ (by omega)).trans (h.fz o)
  · intro o; rw [World.frozen?_setCell]; exact (ff _ _ (by omega)).trans (h.fe o)
theorem CInv.ret {w wr : World} {A : Option Addr} {c : Nat} {it : List (Nat × Nat)} (h : CInv w wr (.slice A it.length c) it) (r : Option (List (Nat × Nat) × Nat)) (b n : Nat) (ok : Bool) (h1 : r = none → ok = false) (h2 : ∀ it' m, r = some (it', m) → it = it' ∧ n = b + m ∧ ok = true) (u1 u2 : Value) :
    RetCl w r b (.returned (.tuple #[.agg #[.int .i64 4, .slice A it.length c], .int .i64 (n : Int), .bool ok])) ((wr.setCell ⟨w.heap.size, 0, none⟩ u1).setCell ⟨w.heap.size, 1, none⟩ u2) := by
  refine ⟨it, A, c, n, ok, rfl, h1, h2, (h.below.setCell (Nat.le_refl _) _).setCell (Nat.le_refl _) _, ?_⟩
  have := seqp_own (ownsRow_setCell_below (ownsRow_setCell_below h.own (a := ⟨w.heap.size, 0, none⟩) (by show w.heap.size < _; omega) u1) (a := ⟨w.heap.size, 1, none⟩) (by show w.heap.size < _; omega) u2) (B := w.heap.size) (by omega)
  exact this
theorem RetCl.drew {w w' : World} {r : Option (List (Nat × Nat) × Nat)} {b : Nat} {e : Ending} (h : RetCl w r b e w') : RetCl w r b e w'.drew := by
  obtain ⟨it, A, c, n, ok, h0, h1, h2, h3, h4⟩ := h
  exact ⟨it, A, c, n, ok, h0, h1, h2, ⟨h3.os, h3.tape, h3.output, h3.size, h3.block⟩, h4⟩
theorem cells2 {w : World} {b : Nat} {x y u v : Value} (h0 : w.cell? ⟨b, 0, none⟩ = some x) (h1 : w.cell? ⟨b, 1, none⟩ = some y) :
    (((w.setCell ⟨b, 0, none⟩ u).setCell ⟨b, 1, none⟩ v).cell? ⟨b, 0, none⟩ = some u ∧ ((w.setCell ⟨b, 0, none⟩ u).setCell ⟨b, 1, none⟩ v).cell? ⟨b, 1, none⟩ = some v) ∧ (((w.setCell ⟨b, 0, none⟩ u).setCell ⟨b, 1, none⟩ v).drew.cell? ⟨b, 0, none⟩ = some u ∧ ((w.setCell ⟨b, 0, none⟩ u).setCell ⟨b, 1, none⟩ v).drew.cell? ⟨b, 1, none⟩ = some v) := by
  have k0 : ((w.setCell ⟨b, 0, none⟩ u).setCell ⟨b, 1, none⟩ v).cell? ⟨b, 0, none⟩ = some u := by
    rw [World.cell?_setCell_other (w.setCell ⟨b, 0, none⟩ u) _ _ _ (by simp), World.cell?_setCell_same w _ _ h0]
  have k1 : ((w.setCell ⟨b, 0, none⟩ u).setCell ⟨b, 1, none⟩ v).cell? ⟨b, 1, none⟩ = some v := by
    refine World.cell?_setCell_same (w.setCell ⟨b, 0, none⟩ u) _ _ (?_ : _ = some y)
    rw [World.cell?_setCell_other w _ _ _ (by simp)]; exact h1
  exact ⟨⟨k0, k1⟩, by rw [World.cell?_drew]; exact k0, by rw [World.cell?_drew]; exact k1⟩
theorem CInv.start (w : World) : CInv w ((w.alloc (.cells #[.int .i64 0, .slice none 0 0] 117)).alloc (.cells #[.int .i64 4, .slice none 0 0] 117)) (.slice none 0 0) [] where
  own := World.ownsRow_nil _ _ _ _
  below := ((Below.refl _ _).alloc (Nat.le_refl _) _).alloc (by simp) _
  size := by simp
  e0 := by simp [go_sem]
  e1 := by simp [go_sem]
  r0 := by simp [go_sem]
  r1 := by simp [go_sem]
  fz := fun o => by simp [go_sem]
  fe := fun o => by simp [go_sem]
set_option maxRecDepth 100000 in
set_option maxHeartbeats 2000000 in
theorem rclass_any (s : ByteArray) (b : Nat) (w : World) (hm : s.size ≤ 900000) (hb : b < s.size) : Calls Tryd.prog 88 #[.string s, .int .i64 ((b + 1 : Nat) : Int)] w (RetCl w (clsRF (s.data.toList.drop b) ((s.data.toList.drop b).length + 1) 1 []) b) := by
  have hsz : s.data.toList.length = s.size := by simp
  have hdl : (s.data.toList.drop b).length = s.size - b := by simp
  have hat : ∀ a, (s.data.toList.drop b)[a]? = s.data.toList[b + a]? := fun a => List.getElem?_drop
  have hch : ∀ a, charAt (s.data.toList.drop b) a = charAt s.data.toList (b + a) := fun a => charAt_from _ _ _
  generalize hL : s.data.toList.drop b = L at *
  generalize hR : clsRF L (L.length + 1) 1 [] = R at *
  replace hat := Lib.hid hat
  replace hch := Lib.hid hch
  replace hsz := Lib.hid hsz
  replace hdl := Lib.hid hdl
  replace hR := Lib.hid hR
  clear hL
  go_enter Tryd.func88, Tryd.ntmps88
  repeat' ((fail_if_success at_builtin); (first | go_skip | go_guarded | go_step))
  go_loopw [1] (fun u1 wr => ∃ (p a k : Nat) (it : List (Nat × Nat)) (v : Value), u1 = .int .i64 (p : Int) ∧ p = b + a ∧ 1 ≤ a ∧ p ≤ s.size ∧ L.length + 1 ≤ k + a ∧ it.length < a ∧ CInv w wr v it ∧ R = clsRF L k a it) (fun u1 _ => s.size - (intOf u1).toNat)
  case atStart => exact ⟨b + 1, 1, L.length + 1, [], _, rfl, rfl, Nat.le_refl _, by omega, by omega, by simp, CInv.start w, hR.out.symm⟩
  case round =>
    obtain ⟨p, a, k, it, v, rfl, hp, ha, hps, hk, hita, hI, hC⟩ := hrel
    obtain ⟨k, rfl⟩ : ∃ k', k = k' + 1 := ⟨k - 1, by have := hdl.out; omega⟩
    obtain ⟨A, c, rfl⟩ : ∃ A c, v = .slice A it.length c := by
      obtain ⟨W0, _, ho⟩ := own_any hI.own hI.size
      exact ho.slice_form
    rw [clsRF] at hC
    rw [hat.out, hch.out, ← hp] at hC
    have e0 := hI.e0
    have e1 := hI.e1
    have r0 := hI.r0
    have r1 := hI.r1
    have fz := hI.fz
    have fe := hI.fe
    have hsz2 := hI.size
    have hz0 : w.heap.size < wr.heap.size := by omega
    have hz1 : w.heap.size + 1 < wr.heap.size := by omega
    have C1 := last_any s p wr (by omega)
    by_cases h93 : s.data.toList[p]?.map UInt8.toNat = some 93
    · rw [if_pos h93] at hC
      rw [last_93.2 h93] at C1
      have hpl : p < s.size := by
        obtain ⟨x, h1, _⟩ := Option.map_eq_some_iff.1 h93
        have := (List.getElem?_eq_some_iff.1 h1).1
        rw [hsz.out] at this
        exact this
      have hge : ¬ (s.size : Int) ≤ (p : Int) := by omega
      have hit : it = [] ∨ 0 < it.length := by
        cases it with
        | nil => exact .inl rfl
        | cons => exact .inr (by simp)
      replace hC := Lib.hid hC
      replace hp := Lib.hid hp
      replace h93 := Lib.hid h93
      repeat' ((fail_if_success at_builtin); (first | go_skip | go_guarded | go_step))
      refine C1.mono ?_
      rintro e w1 ⟨rfl, rfl⟩
      dsimp only
      repeat' ((fail_if_success at_builtin); (first | go_skip | go_guarded | go_step))
      have K : ∀ ok, (it = [] → ok = false) → (0 < it.length → ok = true) → ∀ u1 u2, RetCl w R b (.returned (.tuple #[.agg #[.int .i64 4, .slice A it.length c], .int .i64 ((p + 1 : Nat) : Int), .bool ok])) ((w1.setCell ⟨w.heap.size, 0, none⟩ u1).setCell ⟨w.heap.size, 1, none⟩ u2) := by
        intro ok h1 h2 u1 u2
        refine hI.ret R b (p + 1) ok ?_ ?_ u1 u2
        · intro hR0
          rw [hC.out] at hR0
          rcases hit with h | h
          · exact h1 h
          · rw [if_neg (by rintro rfl; simp at h)] at hR0; cases hR0
        · intro it' m hR0
          rw [hC.out] at hR0
          rcases hit with h | h
          · rw [if_pos h] at hR0; cases hR0
          · rw [if_neg (by rintro rfl; simp at h)] at hR0
            cases hR0
            have := hp.out
            exact ⟨rfl, by omega, h2 h⟩
      have K2 := K (decide (0 < it.length)) (fun h => by rw [h]; rfl) (fun h => decide_eq_true h) (.int .i64 4) (.slice A it.length c)
      have d := cells2 (u := .int .i64 4) (v := .slice A it.length c) r0 r1
      replace K2 := Lib.hid K2
      clear K
      have hlen : ((0 : Int) < (it.length : Int)) = (0 < it.length) := by simp
      replace hlen := Lib.hid hlen
      go_region
      generalize (w1.setCell ⟨w.heap.size, 0, none⟩ (.int .i64 4)).setCell ⟨w.heap.size, 1, none⟩ (.slice A it.length c) = wf at *
      obtain ⟨_, d0, d1⟩ := d
      repeat' ((fail_if_success at_builtin); (first | go_skip | go_guarded | go_step))
      refine bodyPost_ret (v := .tuple #[.agg #[.int .i64 4, .slice A it.length c], .int .i64 ((p : Int) + 1), .bool (decide (0 < it.length))]) (by simp only [results, Tryd.results88]; go_simp; try rfl) rfl ?_
      have := K2.out.drew
      rwa [Int.natCast_add] at this
    · rw [if_neg h93] at hC
      have hl93 : ¬ lastN s.data.toList p = 93 := fun e => h93 (last_93.1 e)
      have hllt := lastN_lt s.data.toList p
      generalize lastN s.data.toList p = x0 at *
      have hx0 : ((x0 : Int) != 93) = true := by simpa using (by omega : ¬ (x0 : Int) = 93)
      have C2 := member_any s p wr (by omega) (by omega)
      replace hC := Lib.hid hC
      replace hp := Lib.hid hp
      replace h93 := Lib.hid h93
      replace hl93 := Lib.hid hl93
      repeat' ((fail_if_success at_builtin); (first | go_skip | go_guarded | go_step))
      refine C1.mono ?_
      rintro e w1 ⟨rfl, rfl⟩
      dsimp only
      repeat' ((fail_if_success at_builtin); (first | go_skip | go_guarded | go_step))
      refine C2.mono ?_
      rintro e w2 ⟨⟨x, n, ok, rfl, hx, hnone, hsome⟩, rfl⟩
      dsimp only
      cases hq : charAt s.data.toList p with
      | none =>
        obtain rfl := hnone hq
        have hC2 : R = none := by rw [hC.out, hq]
        have K2 := hI.ret R b p false (fun _ => rfl) (fun it' m hR0 => by rw [hC2] at hR0; cases hR0) (.int .i64 4) (.slice A it.length c)
        have d := cells2 (u := .int .i64 4) (v := .slice A it.length c) r0 r1
        clear hC hnone hsome
        replace hC2 := Lib.hid hC2
        replace K2 := Lib.hid K2
        repeat' ((fail_if_success at_builtin); (first | go_skip | go_guarded | go_step))
        generalize (w2.setCell ⟨w.heap.size, 0, none⟩ (.int .i64 4)).setCell ⟨w.heap.size, 1, none⟩ (.slice A it.length c) = wf at *
        obtain ⟨⟨d0, d1⟩, _⟩ := d
        refine bodyPost_ret (v := .tuple #[.agg #[.int .i64 4, .slice A it.length c], .int .i64 (p : Int), .bool false]) (by simp only [results, Tryd.results88]; go_simp; try rfl) rfl ?_
        exact K2.out
      | some q =>
        obtain ⟨y, m⟩ := q
        obtain ⟨rfl, rfl, rfl⟩ := hsome y m hq
        have hr1 := charAt_range hq
        rw [hsz.out] at hr1
        have hC2 : R = if s.data.toList[p + m]?.map UInt8.toNat = some 45 then (match charAt s.data.toList (p + m + 1) with
          | none => none
          | some (y, m2) => if y < x then none else clsRF L k (a + m + 1 + m2) (it ++ [(x, y)])) else clsRF L k (a + m) (it ++ [(x, x)]) := by
          rw [hC.out, hq]
          dsimp only
          rw [hat.out, show b + (a + m) = p + m from by have := hp.out; omega, hch.out, show b + (a + m + 1) = p + m + 1 from by have := hp.out; omega]
          rfl
        clear hC hnone hsome
        generalize hn : p + m = n at *
        have C3 := last_any s n w2 (by omega)
        obtain ⟨W0, hW0, ho⟩ := own_any hI.own hI.size
        have hby : (it.length + 1) * 2 ≤ 140737488355328 := by have := hp.out; omega
        by_cases h45 : s.data.toList[n]?.map UInt8.toNat = some 45
        · rw [if_pos h45] at hC2
          rw [last_45.2 h45] at C3
          have hnlt : n < s.size := by
            obtain ⟨z, h1, _⟩ := Option.map_eq_some_iff.1 h45
            have := (List.getElem?_eq_some_iff.1 h1).1
            rw [hsz.out] at this
            exact this
          have C4 := member_any s (n + 1) w2 (by omega) (by omega)
          rw [show ((n + 1 : Nat) : Int) = (n : Int) + 1 from by omega] at C4
          replace hC2 := Lib.hid hC2
          replace h45 := Lib.hid h45
          replace hn := Lib.hid hn
          repeat' ((fail_if_success at_builtin); (first | go_skip | go_guarded | go_step))
          refine C3.mono ?_
          rintro e w3 ⟨rfl, rfl⟩
          dsimp only
          repeat' ((fail_if_success at_builtin); (first | go_skip | go_guarded | go_step))
          refine C4.mono ?_
          rintro e w3 ⟨⟨y, n2, ok, rfl, hy, hnone, hsome⟩, rfl⟩
          dsimp only
          cases hq2 : charAt s.data.toList (n + 1) with
          | none =>
            obtain rfl := hnone hq2
            have hC3 : R = none := by rw [hC2.out, hq2]
            have K2 := hI.ret R b p false (fun _ => rfl) (fun it' m hR0 => by rw [hC3] at hR0; cases hR0) (.int .i64 4) (.slice A it.length c)
            have d := cells2 (u := .int .i64 4) (v := .slice A it.length c) r0 r1
            clear hC2 hnone hsome hC3 ho hW0
            replace K2 := Lib.hid K2
            repeat' ((fail_if_success at_builtin); (first | go_skip | go_guarded | go_step))
            generalize (w3.setCell ⟨w.heap.size, 0, none⟩ (.int .i64 4)).setCell ⟨w.heap.size, 1, none⟩ (.slice A it.length c) = wf at *
            obtain ⟨⟨d0, d1⟩, _⟩ := d
            refine bodyPost_ret (v := .tuple #[.agg #[.int .i64 4, .slice A it.length c], .int .i64 (p : Int), .bool false]) (by simp only [results, Tryd.results88]; go_simp; try rfl) rfl ?_
            exact K2.out
          | some q2 =>
            obtain ⟨y2, m2⟩ := q2
            obtain ⟨rfl, rfl, rfl⟩ := hsome y2 m2 hq2
            have hr2 := charAt_range hq2
            rw [hsz.out] at hr2
            have hC3 : R = if y < x then none else clsRF L k (a + m + 1 + m2) (it ++ [(x, y)]) := by rw [hC2.out, hq2]
            clear hC2 hnone hsome hq2
            by_cases hyx : y < x
            · rw [if_pos hyx] at hC3
              have hyx2 : (y : Int) < (x : Int) := by omega
              have K2 := hI.ret R b p false (fun _ => rfl) (fun it' m hR0 => by rw [hC3] at hR0; cases hR0) (.int .i64 4) (.slice A it.length c)
              have d := cells2 (u := .int .i64 4) (v := .slice A it.length c) r0 r1
              clear hC3 ho hW0
              replace K2 := Lib.hid K2
              repeat' ((fail_if_success at_builtin); (first | go_skip | go_guarded | go_step))
              generalize (w3.setCell ⟨w.heap.size, 0, none⟩ (.int .i64 4)).setCell ⟨w.heap.size, 1, none⟩ (.slice A it.length c) = wf at *
              obtain ⟨⟨d0, d1⟩, _⟩ := d
              refine bodyPost_ret (v := .tuple #[.agg #[.int .i64 4, .slice A it.length c], .int .i64 (p : Int), .bool false]) (by simp only [results, Tryd.results88]; go_simp; try rfl) rfl ?_
              exact K2.out
            · rw [if_neg hyx] at hC3
              have hyx2 : ¬ (y : Int) < (x : Int) := by omega
              generalize hn2 : n + 1 + m2 = n2 at *
              replace hC3 := Lib.hid hC3
              replace hn2 := Lib.hid hn2
              repeat' ((fail_if_success at_builtin); (first | go_skip | go_guarded | go_step))
              refine wp_app1 ho Tryd.underlying115 b2_info hby ?_
              intro v4 w4 hown4 hgr
              obtain ⟨A4, c4, rfl⟩ := hown4.slice_form
              have hB4 : Below (w.heap.size + 2) w3 w4 := ((Below.refl _ w3).alloc hsz2 _).grown hgr.by_ (by simp; omega) (fun k hk => (hI.own.lt k hk).1)
              have ho4 := hown4.1
              rw [hW0] at ho4
              have hI4 := hI.app ho4 hB4
              have f1 := (hB4.cell (p := ⟨w.heap.size + 1, 1, none⟩) (by show w.heap.size + 1 < _; omega)).trans e1
              have f2 := (hB4.frozen (p := ⟨w.heap.size + 1, 1, none⟩) (by show w.heap.size + 1 < _; omega)).trans (fe 1)
              have f3 := hB4.size
              have hz4 : w.heap.size + 1 < w4.heap.size := by omega
              replace hI4 := Lib.hid hI4
              clear hI hown4 hgr hB4 ho4 ho hW0
              repeat' ((fail_if_success at_builtin); (first | go_skip | go_guarded | go_step))
              go_roundw
              case rel => exact ⟨n2, a + m + 1 + m2, k, it ++ [(x, y)], _, rfl, by have := hp.out; have := hn.out; have := hn2.out; omega, by omega, hr2.2.2.2, by omega, by simp; omega, hI4.out, hC3.out⟩
              case measure => simp [intOf]; have := hn.out; have := hn2.out; omega
        · rw [if_neg h45] at hC2
          have hl45 : ¬ lastN s.data.toList n = 45 := fun e => h45 (last_45.1 e)
          have hllt2 := lastN_lt s.data.toList n
          generalize lastN s.data.toList n = x1 at *
          have hx1 : ((x1 : Int) == 45) = false := by simpa using (by omega : ¬ (x1 : Int) = 45)
          replace hC2 := Lib.hid hC2
          replace h45 := Lib.hid h45
          replace hl45 := Lib.hid hl45
          replace hn := Lib.hid hn
          repeat' ((fail_if_success at_builtin); (first | go_skip | go_guarded | go_step))
          refine C3.mono ?_
          rintro e w3 ⟨rfl, rfl⟩
          dsimp only
          repeat' ((fail_if_success at_builtin); (first | go_skip | go_guarded | go_step))
          refine wp_app1 ho Tryd.underlying115 b2_info hby ?_
          intro v4 w4 hown4 hgr
          obtain ⟨A4, c4, rfl⟩ := hown4.slice_form
          have hB4 : Below (w.heap.size + 2) w3 w4 := ((Below.refl _ w3).alloc hsz2 _).grown hgr.by_ (by simp; omega) (fun k hk => (hI.own.lt k hk).1)
          have ho4 := hown4.1
          rw [hW0] at ho4
          have hI4 := hI.app ho4 hB4
          have f1 := (hB4.cell (p := ⟨w.heap.size + 1, 1, none⟩) (by show w.heap.size + 1 < _; omega)).trans e1
          have f2 := (hB4.frozen (p := ⟨w.heap.size + 1, 1, none⟩) (by show w.heap.size + 1 < _; omega)).trans (fe 1)
          have f3 := hB4.size
          have hz4 : w.heap.size + 1 < w4.heap.size := by omega
          replace hI4 := Lib.hid hI4
          clear hI hown4 hgr hB4 ho4 ho hW0
          repeat' ((fail_if_success at_builtin); (first | go_skip | go_guarded | go_step))
          go_roundw
          case rel => exact ⟨n, a + m, k, it ++ [(x, x)], _, rfl, by have := hp.out; have := hn.out; omega, by omega, hr1.2.2.2, by omega, by simp; omega, hI4.out, hC2.out⟩
          case measure => simp [intOf]; have := hn.out; omega
end Go.Proofs.YtgloblokkejgmaaDoor
