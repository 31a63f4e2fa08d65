/- Cache: SameList, Same. -/
import Derived.Test.YtpdlapdnjmoaoaaDoorCaG
namespace Go.Proofs.YtpdlapdnjmoaoaaDoor
open Go.RowKit
def sameE (a b : Ent) : Bool := sameP a.sc b.sc && (a.key.toList == b.key.toList && (a.dig == b.dig && (a.size == b.size && (a.created == b.created && a.used == b.used))))
theorem sameP_self (a : Scp) : sameP a a = true := by simp [sameP]
theorem sameE_self (a : Ent) : sameE a a = true := by simp [sameE, sameP]
theorem ent_neq (a b : Ent) (w : World) : (binOp .neq 42 (.agg #[.string a.sc.prj, .int .i64 a.sc.trust, .string a.sc.ref, .string a.key, .int .u64 a.dig, .int .i64 a.size, .int .i64 a.created, .int .i64 a.used]) (.agg #[.string b.sc.prj, .int .i64 b.sc.trust, .string b.sc.ref, .string b.key, .int .u64 b.dig, .int .i64 b.size, .int .i64 b.created, .int .i64 b.used])).run Tryd.prog w = .ok (.bool (!sameE a b)) w := by
  have hS : Tryd.prog.underlying 42 = some (.struct (Tryd.prog.fieldsOf 42)) := by kernel_rfl
  have hp : Tryd.prog.stoodInHeld 42 = false := by kernel_rfl
  have hS2 : Tryd.prog.underlying 38 = some (.struct (Tryd.prog.fieldsOf 38)) := by kernel_rfl
  have hp2 : Tryd.prog.stoodInHeld 38 = false := by kernel_rfl
  have hsc : ∀ w, (Op.equalIn 9999 38 (.agg #[.string a.sc.prj, .int .i64 a.sc.trust, .string a.sc.ref]) (.agg #[.string b.sc.prj, .int .i64 b.sc.trust, .string b.sc.ref])).run Tryd.prog w = .ok (sameP a.sc b.sc) w := by
    intro w
    rw [show (9999 : Nat) = 9998 + 1 from rfl, run_equalIn_agg w 9998 38 _ _ hS2 hp2]
    simp only [Program.fieldsOf, Tryd.underlying38]
    go_simp
    unfold sameP
    by_cases h1 : a.sc.prj.toList = b.sc.prj.toList <;> by_cases h2 : a.sc.trust = b.sc.trust <;> by_cases h3 : a.sc.ref.toList = b.sc.ref.toList <;> simp [h1, h2, h3]
  rw [run_neq_struct, show (10000 : Nat) = 9999 + 1 from rfl, run_equalIn_agg w 9999 42 _ _ hS hp]
  simp only [Program.fieldsOf, Tryd.underlying42]
  go_simp
  unfold sameE
  cases sameP a.sc b.sc
  · simp
  · by_cases h1 : a.key.toList = b.key.toList <;> by_cases h2 : a.dig = b.dig <;> by_cases h3 : a.size = b.size <;> by_cases h4 : a.created = b.created <;> by_cases h5 : a.used = b.used <;> simp [h1, h2, h3, h4, h5]
def sameL : List Ent → List Ent → Bool
  | [], [] => true
  | a :: l, b :: m => sameE a b && sameL l m
  | _, _ => false
theorem sameL_self : ∀ l : List Ent, sameL l l = true
  | [] => rfl
  | a :: l => by rw [sameL, sameE_self, sameL_self l]; rfl
theorem sameL_ne : ∀ {l m : List Ent}, l.length ≠ m.length → sameL l m = false
  | [], [], h => absurd rfl h
  | [], _ :: _, _ => rfl
  | _ :: _, [], _ => rfl
  | a :: l, b :: m, h => by
    rw [sameL, sameL_ne (l := l) (m := m) (by simpa using h), Bool.and_false]
set_option maxRecDepth 100000 in
set_option maxHeartbeats 1000000 in
theorem sameList_any (l m : List Ent) (A A2 : Option Addr) (n n2 c c2 : Nat) (w : World) (hn : n = l.length) (hs : Seq w w.heap.size 8 A n (entsC l)) (hn2 : n2 = m.length) (hs2 : Seq w w.heap.size 8 A2 n2 (entsC m)) (hl : n ≤ 1000000000) (_hl2 : n2 ≤ 1000000000) :
    Calls Tryd.prog 25 #[.slice A n c, .slice A2 n2 c2] w fun e w' => e = .returned (.bool (sameL l m)) ∧ Below w.heap.size w w' := by
  replace hs := Lib.hid hs
  replace hs2 := Lib.hid hs2
  by_cases hne : n = n2
  · have q0 : ((n : Int) != (n2 : Int)) = false := by simpa using (by omega : (n : Int) = (n2 : Int))
    have hlen := Lib.hid hn
    have hlen2 := Lib.hid hn2
    have hnn := Lib.hid hne
    clear hn hn2 hne
    go_enter Tryd.func25, Tryd.ntmps25
    repeat' ((fail_if_success at_builtin); (first | go_skip | go_guarded | go_step))
    go_loopw [5] (fun u5 wr => ∃ i : Nat, i ≤ n ∧ u5 = .int .i64 (i : Int) ∧ Below w.heap.size w wr ∧ sameL l m = sameL (l.drop i) (m.drop i)) (fun u5 _ => n - (intOf u5).toNat)
    case atStart => exact ⟨0, by omega, rfl, Below.refl _ _, by simp⟩
    case round =>
      obtain ⟨i, hi, rfl, hb, hu⟩ := hrel
      by_cases hlt : i < n
      · have h1 : i < l.length := by have := hlen.out; omega
        have h2 : i < m.length := by have := hlen2.out; have := hnn.out; omega
        have hx : l[i]? = some l[i] := List.getElem?_eq_getElem h1
        have hy : m[i]? = some m[i] := List.getElem?_eq_getElem h2
        obtain ⟨b, o, rfl, hbB, hc⟩ := ent_at hs.out hlen.out hx
        obtain ⟨b2, o2, rfl, hbB2, hd⟩ := ent_at hs2.out hlen2.out hy
        have hc := hc.map (fun j => hb.cell (p := ⟨b, o + i * 8 + j, none⟩) hbB)
        have hd := hd.map (fun j => hb.cell (p := ⟨b2, o2 + i * 8 + j, none⟩) hbB2)
        rw [List.drop_eq_getElem_cons h1, List.drop_eq_getElem_cons h2, sameL] at hu
        clear hx hy
        generalize l[i] = x at *
        generalize m[i] = y at *
        obtain ⟨c0, c1, c2, c3, c4, c5, c6, c7⟩ := hc
        obtain ⟨d0, d1, d2, d3, d4, d5, d6, d7⟩ := hd
        have i0 : (0 : Int) ≤ (i : Int) := by omega
        have i1 : (i : Int) < (n : Int) := by omega
        have i1' : (i : Int) < (n2 : Int) := by have := hnn.out; omega
        have i2 : IntKind.i64.wrap ((i : Int) + 1) = (i : Int) + 1 := IntWalk.i64_in _ (by omega)
        have hq := ent_neq x y
        generalize sameE x y = v at *
        replace hu := Lib.hid hu
        have hbd : ∀ q, Below w.heap.size w (wr.drewN q) := fun q => hb.trans ⟨rfl, rfl, rfl, Nat.le_refl _, fun _ _ => rfl⟩
        cases v with
        | false =>
          simp only [Bool.not_false] at hq
          repeat' ((fail_if_success at_builtin); (first | go_skip | go_guarded | go_step))
          go_quiet (fail)
          repeat' ((fail_if_success at_builtin); (first | go_skip | go_guarded | go_step))
          go_ret
          exact ⟨ret_b (by rw [hu.out]; rfl), hbd nq⟩
        | true =>
          simp only [Bool.not_true] at hq
          repeat' ((fail_if_success at_builtin); (first | go_skip | go_guarded | go_step))
          go_quiet (fail)
          repeat' ((fail_if_success at_builtin); (first | go_skip | go_guarded | go_step))
          go_roundw
          case rel => exact ⟨i + 1, by omega, by go_num, hbd nq, by rw [hu.out]; rfl⟩
          case measure => simp [intOf]; omega
      · have i1 : ¬ ((i : Int) < (n : Int)) := by omega
        rw [List.drop_of_length_le (by have := hlen.out; omega), List.drop_of_length_le (by have := hlen2.out; have := hnn.out; omega)] at hu
        replace hu := Lib.hid hu
        repeat' ((fail_if_success at_builtin); (first | go_skip | go_guarded | go_step))
        go_ret
        exact ⟨ret_b (by rw [hu.out]; rfl), hb⟩
  · have q0 : ((n : Int) != (n2 : Int)) = true := by simpa using (by omega : ¬ (n : Int) = (n2 : Int))
    have hf : sameL l m = false := sameL_ne (by omega)
    replace hf := Lib.hid hf
    clear hn hn2 hne
    go_enter Tryd.func25, Tryd.ntmps25
    repeat' ((fail_if_success at_builtin); (first | go_skip | go_guarded | go_step))
    go_ret
    exact ⟨ret_b hf.out.symm, Below.refl _ _⟩
set_option maxRecDepth 100000 in
set_option maxHeartbeats 1000000 in
theorem same_any (z z2 : Int) (l m : List Ent) (A A2 : Option Addr) (n n2 c c2 : Nat) (w : World) (hn : n = l.length) (hs : Seq w w.heap.size 8 A n (entsC l)) (hn2 : n2 = m.length) (hs2 : Seq w w.heap.size 8 A2 n2 (entsC m)) (hl : n ≤ 1000000000) (hl2 : n2 ≤ 1000000000) :
    Calls Tryd.prog 18 #[cval z A n c, cval z2 A2 n2 c2] w fun e w' => e = .returned (.bool (z == z2 && sameL l m)) ∧ Below w.heap.size w w' := by
  obtain ⟨w1, hw1⟩ : ∃ w1 : World, w1 = (w.alloc (.cells #[.int .i64 z, .slice A n c] 24)).alloc (.cells #[.int .i64 z2, .slice A2 n2 c2] 24) := ⟨_, rfl⟩
  have hb0 : Below w.heap.size w w1 := by rw [hw1]; exact ((Below.refl w.heap.size w).alloc (Nat.le_refl _) _).alloc (by simp) _
  have C := sameList_any l m A A2 n n2 c c2 w1 hn ((hs.below hb0).more hb0.size) hn2 ((hs2.below hb0).more hb0.size) hl hl2
  replace C := Lib.hid C
  replace hw1 := Lib.hid hw1
  clear hn hn2 hs hs2
  by_cases hz : z = z2
  · subst hz
    have q0 : (z == z) = true := by simp
    go_enter Tryd.func18, Tryd.ntmps18
    repeat' ((fail_if_success at_builtin); (first | go_skip | go_guarded | go_step))
    rw [← hw1.out]
    refine C.out.mono ?_
    rintro e w2 ⟨rfl, hb1⟩
    dsimp only
    repeat' ((fail_if_success at_builtin); (first | go_skip | go_guarded | go_step))
    go_ret
    exact ⟨by rw [q0]; rfl, hb0.trans (hb1.mono hb0.size)⟩
  · have q0 : (z == z2) = false := by simpa using hz
    clear hz
    go_enter Tryd.func18, Tryd.ntmps18
    repeat' ((fail_if_success at_builtin); (first | go_skip | go_guarded | go_step))
    rw [← hw1.out]
    go_ret
    exact ⟨by rw [q0]; rfl, hb0⟩
end Go.Proofs.YtpdlapdnjmoaoaaDoor
