/- Cache: Find. -/
import Derived.Test.YtpdlapdnjmoaoaaDoorCaL
namespace Go.Proofs.YtpdlapdnjmoaoaaDoor
open Go.RowKit
def sameP (a b : Scp) : Bool := a.prj.toList == b.prj.toList && (a.trust == b.trust && a.ref.toList == b.ref.toList)
theorem scp_eql (a b : Scp) (w : World) : (binOp .eql 38 (.agg #[.string a.prj, .int .i64 a.trust, .string a.ref]) (.agg #[.string b.prj, .int .i64 b.trust, .string b.ref])).run Tryd.prog w = .ok (.bool (sameP a b)) w := by
  have hS : Tryd.prog.underlying 38 = some (.struct (Tryd.prog.fieldsOf 38)) := by kernel_rfl
  have hp : Tryd.prog.stoodInHeld 38 = false := by kernel_rfl
  rw [run_eql_struct, show (10000 : Nat) = 9999 + 1 from rfl, run_equalIn_agg w 9999 38 _ _ hS hp]
  simp only [Program.fieldsOf, Tryd.underlying38]
  go_simp
  unfold sameP
  by_cases h1 : a.prj.toList = b.prj.toList <;> by_cases h2 : a.trust = b.trust <;> by_cases h3 : a.ref.toList = b.ref.toList <;> simp [h1, h2, h3]
def hitE (s : Scp) (k : ByteArray) (x : Ent) : Bool := sameP x.sc s && x.key.toList == k.toList
/-- how many stand ahead of the first that f holds of -/
def posE (f : Ent → Bool) : List Ent → Nat
  | [] => 0
  | x :: l => if f x then 0 else posE f l + 1
theorem posE_le (f : Ent → Bool) : ∀ l : List Ent, posE f l ≤ l.length
  | [] => Nat.le_refl _
  | x :: l => by
    have := posE_le f l
    unfold posE
    split
    · simp
    · simp; omega
def findI (s : Scp) (k : ByteArray) (l : List Ent) : Int := if posE (hitE s k) l < l.length then (posE (hitE s k) l : Int) else -1
set_option maxRecDepth 100000 in
set_option maxHeartbeats 1000000 in
theorem refFind_any (s : Scp) (k : ByteArray) (l : List Ent) (A : Option Addr) (n c : Nat) (w : World) (hn : n = l.length) (hs : Seq w w.heap.size 8 A n (entsC l)) (hl : n ≤ 1000000000) :
    Calls Tryd.prog 32 #[.slice A n c, .agg (pcells s), .string k] w fun e w' => e = .returned (.int .i64 (findI s k l)) ∧ Below w.heap.size w w' := by
  have hb0 := (Below.refl w.heap.size w).alloc (Nat.le_refl _) (.cells (pcells s) 38)
  have z0 : (w.alloc (.cells (pcells s) 38)).cell? ⟨w.heap.size, 0, none⟩ = some (.string s.prj) := by simp [go_sem]
  have z1 : (w.alloc (.cells (pcells s) 38)).cell? ⟨w.heap.size, 1, none⟩ = some (.int .i64 s.trust) := by simp [go_sem]
  have z2 : (w.alloc (.cells (pcells s) 38)).cell? ⟨w.heap.size, 2, none⟩ = some (.string s.ref) := by simp [go_sem]
  have zz : w.heap.size < (w.alloc (.cells (pcells s) 38)).heap.size := by simp
  replace hs := Lib.hid (hs.below hb0)
  replace hn := Lib.hid hn
  have hpos : posE (hitE s k) l = 0 + posE (hitE s k) (l.drop 0) := by simp
  replace hpos := Lib.hid hpos
  go_enter Tryd.func32, Tryd.ntmps32
  repeat' ((fail_if_success at_builtin); (first | go_skip | go_guarded | go_step))
  generalize w.alloc (.cells (pcells s) 38) = w1 at *
  go_loopw [7] (fun u7 wr => ∃ i : Nat, i ≤ n ∧ u7 = .int .i64 (i : Int) ∧ Below w1.heap.size w1 wr ∧ posE (hitE s k) l = i + posE (hitE s k) (l.drop i)) (fun u7 _ => n - (intOf u7).toNat)
  case atStart => exact ⟨0, by omega, rfl, Below.refl _ _, hpos.out⟩
  case round =>
    clear hpos
    obtain ⟨i, hi, rfl, hb1, hu⟩ := hrel
    have y0 := (hb1.cell (p := ⟨w.heap.size, 0, none⟩) zz).trans z0
    have y1 := (hb1.cell (p := ⟨w.heap.size, 1, none⟩) zz).trans z1
    have y2 := (hb1.cell (p := ⟨w.heap.size, 2, none⟩) zz).trans z2
    have hb := hb0.trans (hb1.mono (Nat.le_of_lt zz))
    by_cases hlt : i < n
    · have hlt2 : i < l.length := by have := hn.out; omega
      have hx : l[i]? = some l[i] := List.getElem?_eq_getElem hlt2
      obtain ⟨b, o, rfl, hbB, hc⟩ := ent_at hs.out hn.out hx
      have hc := hc.map (fun j => hb1.cell (p := ⟨b, o + i * 8 + j, none⟩) (by show b < _; omega))
      rw [List.drop_eq_getElem_cons hlt2, posE] at hu
      clear hx
      generalize l[i] = x at *
      obtain ⟨c0, c1, c2, c3, c4, c5, c6, c7⟩ := hc
      have i0 : (0 : Int) ≤ (i : Int) := by omega
      have i1 : (i : Int) < (n : Int) := by omega
      have i2 : IntKind.i64.wrap ((i : Int) + 1) = (i : Int) + 1 := IntWalk.i64_in _ (by omega)
      have hq := scp_eql x.sc s
      have hh : hitE s k x = (sameP x.sc s && x.key.toList == k.toList) := rfl
      generalize sameP x.sc s = v at *
      replace hh := Lib.hid hh
      replace hu := Lib.hid hu
      have hbd : ∀ q, Below w1.heap.size w1 (wr.drewN q) := fun q => hb1.trans ⟨rfl, rfl, rfl, Nat.le_refl _, fun _ _ => rfl⟩
      cases v with
      | false =>
        repeat' ((fail_if_success at_builtin); (first | go_skip | go_guarded | go_step))
        go_quiet (fail)
        repeat' ((fail_if_success at_builtin); (first | go_skip | go_guarded | go_step))
        go_roundw
        case rel => exact ⟨i + 1, by omega, by go_num, hbd nq, by have := hu.out; rw [hh.out] at this; simp at this; omega⟩
        case measure => simp [intOf]; omega
      | true =>
        cases hk : (x.key.toList == k.toList) with
        | false =>
          repeat' ((fail_if_success at_builtin); (first | go_skip | go_guarded | go_step))
          go_quiet (fail)
          repeat' ((fail_if_success at_builtin); (first | go_skip | go_guarded | go_step))
          go_roundw
          case rel => exact ⟨i + 1, by omega, by go_num, hbd nq, by have := hu.out; rw [hh.out, hk] at this; simp at this; omega⟩
          case measure => simp [intOf]; omega
        | true =>
          repeat' ((fail_if_success at_builtin); (first | go_skip | go_guarded | go_step))
          go_quiet (fail)
          repeat' ((fail_if_success at_builtin); (first | go_skip | go_guarded | go_step))
          go_ret
          have := hu.out
          rw [hh.out, hk] at this
          simp at this
          exact ⟨ret_i (by unfold findI; rw [this, if_pos (by have := hn.out; omega)]), hb0.trans ((hbd nq).mono (Nat.le_of_lt zz))⟩
    · have i1 : ¬ ((i : Int) < (n : Int)) := by omega
      rw [List.drop_of_length_le (by have := hn.out; omega), posE] at hu
      replace hu := Lib.hid hu
      repeat' ((fail_if_success at_builtin); (first | go_skip | go_guarded | go_step))
      go_ret
      exact ⟨ret_i (by unfold findI; rw [if_neg (by have := hu.out; have := hn.out; omega)]), hb⟩
set_option maxRecDepth 100000 in
set_option maxHeartbeats 1000000 in
theorem findc_any (s : Scp) (k : ByteArray) (p4 p5 : Nat) (x : Ent) (w : World) (h0 : w.cell? ⟨p4, 0, none⟩ = some (.string s.prj)) (h1 : w.cell? ⟨p4, 1, none⟩ = some (.int .i64 s.trust)) (h2 : w.cell? ⟨p4, 2, none⟩ = some (.string s.ref)) (h3 : w.cell? ⟨p5, 0, none⟩ = some (.string k)) (l4 : p4 < w.heap.size) (l5 : p5 < w.heap.size) :
    Calls Tryd.prog 66 #[.agg (ent8 x), .pointer (some ⟨p4, 0, none⟩), .pointer (some ⟨p5, 0, none⟩)] w fun e w' => e = .returned (.bool (hitE s k x)) ∧ Below w.heap.size w w' := by
  have hb0 := (Below.refl w.heap.size w).alloc (Nat.le_refl _) (.cells (ent8 x) 42)
  have y0 := (hb0.cell (p := ⟨p4, 0, none⟩) l4).trans h0
  have y1 := (hb0.cell (p := ⟨p4, 1, none⟩) l4).trans h1
  have y2 := (hb0.cell (p := ⟨p4, 2, none⟩) l4).trans h2
  have y3 := (hb0.cell (p := ⟨p5, 0, none⟩) l5).trans h3
  have z0 : (w.alloc (.cells (ent8 x) 42)).cell? ⟨w.heap.size, 0, none⟩ = some (.string x.sc.prj) := by simp [go_sem]
  have z1 : (w.alloc (.cells (ent8 x) 42)).cell? ⟨w.heap.size, 1, none⟩ = some (.int .i64 x.sc.trust) := by simp [go_sem]
  have z2 : (w.alloc (.cells (ent8 x) 42)).cell? ⟨w.heap.size, 2, none⟩ = some (.string x.sc.ref) := by simp [go_sem]
  have z3 : (w.alloc (.cells (ent8 x) 42)).cell? ⟨w.heap.size, 3, none⟩ = some (.string x.key) := by simp [go_sem]
  have hq := scp_eql x.sc s
  have hh : hitE s k x = (sameP x.sc s && x.key.toList == k.toList) := rfl
  generalize sameP x.sc s = v at *
  replace hh := Lib.hid hh
  clear h0 h1 h2 h3
  cases v with
  | false =>
    have hv : hitE s k x = false := by rw [hh.out]; rfl
    have hv := Lib.hid hv
    go_enter Tryd.func66, Tryd.ntmps66
    repeat' ((fail_if_success at_builtin); (first | go_skip | go_guarded | go_step))
    go_ret
    exact ⟨ret_b hv.out.symm, hb0⟩
  | true =>
    have hv : hitE s k x = (x.key.toList == k.toList) := by rw [hh.out]; rfl
    have hv := Lib.hid hv
    clear hh
    cases hk : (x.key.toList == k.toList)
    all_goals
      rw [hk] at hv
      go_enter Tryd.func66, Tryd.ntmps66
      repeat' ((fail_if_success at_builtin); (first | go_skip | go_guarded | go_step))
      go_ret
      exact ⟨ret_b hv.out.symm, hb0⟩
set_option maxRecDepth 100000 in
set_option maxHeartbeats 1000000 in
theorem idxf_any (s : Scp) (k : ByteArray) (p4 p5 : Nat) (l : List Ent) (A : Option Addr) (n c : Nat) (w : World) (hn : n = l.length) (hs : Seq w w.heap.size 8 A n (entsC l)) (hl : n ≤ 1000000000) (h0 : w.cell? ⟨p4, 0, none⟩ = some (.string s.prj)) (h1 : w.cell? ⟨p4, 1, none⟩ = some (.int .i64 s.trust)) (h2 : w.cell? ⟨p4, 2, none⟩ = some (.string s.ref)) (h3 : w.cell? ⟨p5, 0, none⟩ = some (.string k)) (l4 : p4 < w.heap.size) (l5 : p5 < w.heap.size) :
    Calls Tryd.prog 65 #[.slice A n c, .func (.func 66) #[] #[.pointer (some ⟨p4, 0, none⟩), .pointer (some ⟨p5, 0, none⟩)]] w fun e w' => e = .returned (.int .i64 (findI s k l)) ∧ Below w.heap.size w w' := by
  replace hs := Lib.hid hs
  replace hn := Lib.hid hn
  have hpos : posE (hitE s k) l = 0 + posE (hitE s k) (l.drop 0) := by simp
  replace hpos := Lib.hid hpos
  have C := fun (x : Ent) (w' : World) (hb : Below w.heap.size w w') => findc_any s k p4 p5 x w' ((hb.cell (p := ⟨p4, 0, none⟩) l4).trans h0) ((hb.cell (p := ⟨p4, 1, none⟩) l4).trans h1) ((hb.cell (p := ⟨p4, 2, none⟩) l4).trans h2) ((hb.cell (p := ⟨p5, 0, none⟩) l5).trans h3) (Nat.lt_of_lt_of_le l4 hb.size) (Nat.lt_of_lt_of_le l5 hb.size)
  replace C := Lib.hid C
  clear h0 h1 h2 h3
  go_enter Tryd.func65, Tryd.ntmps65
  repeat' ((fail_if_success at_builtin); (first | go_skip | go_guarded | go_step))
  go_loopw [8] (fun u8 wr => ∃ i : Nat, i ≤ n ∧ u8 = .int .i64 (i : Int) ∧ Below w.heap.size w wr ∧ posE (hitE s k) l = i + posE (hitE s k) (l.drop i)) (fun u8 _ => n - (intOf u8).toNat)
  case atStart => exact ⟨0, by omega, rfl, Below.refl _ _, hpos.out⟩
  case round =>
    clear hpos
    obtain ⟨i, hi, rfl, hb, hu⟩ := hrel
    by_cases hlt : i < n
    · have hlt2 : i < l.length := by have := hn.out; omega
      have hx : l[i]? = some l[i] := List.getElem?_eq_getElem hlt2
      obtain ⟨b, o, rfl, hbB, hc⟩ := ent_at hs.out hn.out hx
      have hc := hc.map (fun j => hb.cell (p := ⟨b, o + i * 8 + j, none⟩) hbB)
      rw [List.drop_eq_getElem_cons hlt2, posE] at hu
      clear hx
      generalize l[i] = x at *
      obtain ⟨c0, c1, c2, c3, c4, c5, c6, c7⟩ := hc
      have i0 : (0 : Int) ≤ (i : Int) := by omega
      have i1 : (i : Int) < (n : Int) := by omega
      have i2 : IntKind.i64.wrap ((i : Int) + 1) = (i : Int) + 1 := IntWalk.i64_in _ (by omega)
      replace hu := Lib.hid hu
      repeat' ((fail_if_success at_builtin); (first | go_skip | go_guarded | go_step))
      refine (C.out x _ hb).mono ?_
      rintro e w3 ⟨rfl, hb3⟩
      dsimp only
      have hbz := hb.trans (hb3.mono hb.size)
      generalize hv : hitE s k x = v at *
      cases v with
      | false =>
        repeat' ((fail_if_success at_builtin); (first | go_skip | go_guarded | go_step))
        go_roundw
        case rel => exact ⟨i + 1, by omega, by go_num, hbz, by have := hu.out; simp at this; omega⟩
        case measure => simp [intOf]; omega
      | true =>
        repeat' ((fail_if_success at_builtin); (first | go_skip | go_guarded | go_step))
        go_ret
        have := hu.out
        simp at this
        exact ⟨ret_i (by unfold findI; rw [this, if_pos (by have := hn.out; omega)]), hbz⟩
    · have i1 : ¬ ((i : Int) < (n : Int)) := by omega
      rw [List.drop_of_length_le (by have := hn.out; omega), posE] at hu
      replace hu := Lib.hid hu
      repeat' ((fail_if_success at_builtin); (first | go_skip | go_guarded | go_step))
      go_ret
      exact ⟨ret_i (by unfold findI; rw [if_neg (by have := hu.out; have := hn.out; omega)]), hb⟩
end Go.Proofs.YtpdlapdnjmoaoaaDoor
