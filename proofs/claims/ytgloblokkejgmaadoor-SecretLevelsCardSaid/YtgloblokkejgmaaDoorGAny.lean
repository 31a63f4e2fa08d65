/- Any: a list of patterns with exceptions: the walk. -/
import Derived.Test.YtgloblokkejgmaaDoorGMatW
namespace Go.Proofs.YtgloblokkejgmaaDoor
open Go.RowKit
/-- what one pattern says, if it says something -/
def oneA (p s : List UInt8) : Option Bool := if p.head?.map UInt8.toNat = some 33 then (if matchS p.tail s then some false else none) else (if matchS p s then some true else none)
def anyR (s : List UInt8) : List (List UInt8) → Bool
  | [] => false
  | p :: ps => match oneA p s with
    | some b => b
    | none => anyR s ps
def anyS (ps : List (List UInt8)) (s : List UInt8) : Bool := anyR s ps.reverse
abbrev toL (l : List ByteArray) : List (List UInt8) := l.map fun p => p.data.toList
set_option maxRecDepth 100000 in
set_option maxHeartbeats 2000000 in
theorem any_any (l : List ByteArray) (s : ByteArray) (A : Option Addr) (c : Nat) (w : World) (hs : Seq w w.heap.size 1 A l.length (l.map Value.string)) (hl : l.length ≤ 1000000) (hm : ∀ p ∈ l, p.size ≤ 1000000) (hz : s.size ≤ 1000000) :
    Calls Tryd.prog 44 #[.slice A l.length c, .string s] w fun e w' => e = .returned (.bool (anyS (toL l) s.data.toList)) ∧ Below w.heap.size w w' := by
  replace hm := Lib.hid hm
  go_enter Tryd.func44, Tryd.ntmps44
  have a1 : IntKind.i64.wrap ((l.length : Int) - 1) = (l.length : Int) - 1 := IntWalk.i64_in _ (by omega)
  repeat' ((fail_if_success at_builtin); (first | go_skip | go_guarded | go_step))
  go_loopw [5] (fun u5 wr => ∃ j : Nat, j ≤ l.length ∧ u5 = .int .i64 ((j : Int) - 1) ∧ Below w.heap.size w wr ∧ anyS (toL l) s.data.toList = anyR s.data.toList (toL (l.take j)).reverse) (fun u5 _ => (intOf u5 + 1).toNat)
  case atStart => exact ⟨l.length, by omega, rfl, Below.refl _ _, by rw [List.take_of_length_le (Nat.le_refl _)]; rfl⟩
  case round =>
    obtain ⟨j, hj, rfl, hb, hany⟩ := hrel
    by_cases h0 : j = 0
    · subst h0
      have b1 : ¬ ((0 : Int) ≤ ((0 : Nat) : Int) - 1) := by omega
      have b2 : ¬ ((((0 : Nat) : Int) - 1) ≥ 0) := by omega
      have hany2 : anyS (toL l) s.data.toList = false := by rw [hany]; rfl
      replace hany2 := Lib.hid hany2
      clear hany
      repeat' ((fail_if_success at_builtin); (first | go_skip | go_guarded | go_step))
      go_ret
      exact ⟨ret_b hany2.out.symm, hb⟩
    · obtain ⟨i, rfl⟩ : ∃ i, j = i + 1 := ⟨j - 1, by omega⟩
      have hi : i < l.length := by omega
      have hji : ((i + 1 : Nat) : Int) - 1 = (i : Int) := by omega
      rw [hji]
      obtain ⟨b, o, rfl, hbB, hcell⟩ := hs.2 (by omega)
      have hx : l[i]? = some l[i] := List.getElem?_eq_getElem hi
      have hc0 := (hb.cell (p := ⟨b, o + i, none⟩) hbB).trans (hcell i (.string l[i]) (by rw [List.getElem?_map, hx]; rfl))
      have hps : l[i].size ≤ 1000000 := hm.out _ (List.getElem_mem _)
      have hstep : anyR s.data.toList (toL (l.take (i + 1))).reverse = match oneA l[i].data.toList s.data.toList with
          | some b => b
          | none => anyR s.data.toList (toL (l.take i)).reverse := by
        rw [List.take_add_one, hx, toL, List.map_append, List.reverse_append]
        rfl
      rw [hstep] at hany
      clear hstep hcell
      generalize l[i] = p at *
      have i0 : (0 : Int) ≤ (i : Int) := by omega
      have i1 : (i : Int) < (l.length : Int) := by omega
      have i2 : IntKind.i64.wrap ((i : Int) - 1) = (i : Int) - 1 := IntWalk.i64_in _ (by omega)
      have hpl : p.data.toList.length = p.size := by simp
      have hext := ext_list p 1 p.size
      have hexs := ext_size p 1
      replace hext := Lib.hid hext
      replace hexs := Lib.hid hexs
      have C := fun (q : ByteArray) (h : q.size ≤ 1000000) => match_any q s wr h hz
      replace C := Lib.hid C
      replace hany := Lib.hid hany
      by_cases hp0 : p.size = 0
      · have hpe : p = ByteArray.empty := by
          have hl0 : p.data.toList = [] := List.eq_nil_of_length_eq_zero (by omega)
          cases p with
          | mk d => simp at hl0; subst hl0; rfl
        subst hpe
        have hone : oneA ByteArray.empty.data.toList s.data.toList = if matchS ByteArray.empty.data.toList s.data.toList = true then some true else none := rfl
        repeat' ((fail_if_success at_builtin); (first | go_skip | go_guarded | go_step))
        refine (C.out ByteArray.empty (by decide)).mono ?_
        rintro e w2 ⟨rfl, hb2⟩
        have hb3 := hb.trans (hb2.mono hb.size)
        clear C
        dsimp only
        cases hmt : matchS (ByteArray.empty).data.toList s.data.toList with
        | true =>
          rw [hmt] at hone
          have hfin : anyS (toL l) s.data.toList = true := by rw [hany.out, hone] <;> rfl
          replace hfin := Lib.hid hfin
          clear hany hone
          repeat' ((fail_if_success at_builtin); (first | go_skip | go_guarded | go_step))
          go_ret
          exact ⟨ret_b (hfin.out).symm, hb3⟩
        | false =>
          rw [hmt] at hone
          have hfin : anyS (toL l) s.data.toList = anyR s.data.toList (toL (l.take i)).reverse := by rw [hany.out, hone] <;> rfl
          replace hfin := Lib.hid hfin
          clear hany hone
          repeat' ((fail_if_success at_builtin); (first | go_skip | go_guarded | go_step))
          go_roundw
          case rel => exact ⟨i, by omega, rfl, hb3, hfin.out⟩
          case measure => simp [intOf] <;> omega
      · have hp0' : 0 < p.size := by omega
        have hne := toList_ne hp0'
        have hat := str_at hp0'
        by_cases h33 : p[0].toNat = 33
        · have q33 : (p[0].toNat : Int) = 33 := by omega
          have hp1 : (1 : Int) ≤ (p.size : Int) := by omega
          have hhd : p.data.toList.head?.map UInt8.toNat = some 33 := by rw [List.head?_eq_getElem?, hat]; simp [h33]
          have hone : oneA p.data.toList s.data.toList = if matchS (p.extract 1 p.size).data.toList s.data.toList = true then some false else none := by
            unfold oneA
            rw [if_pos hhd, hext.out, List.take_of_length_le (by rw [List.length_drop, hpl]; omega), List.drop_one]
          clear hhd
          replace hone := Lib.hid hone
          repeat' ((fail_if_success at_builtin); (first | go_skip | go_guarded | go_step))
          replace hone := hone.out
          refine (C.out (p.extract 1 p.size) (Nat.le_trans hexs.out hps)).mono ?_
          rintro e w2 ⟨rfl, hb2⟩
          have hb3 := hb.trans (hb2.mono hb.size)
          clear C
          dsimp only
          cases hmt : matchS ((p.extract 1 p.size)).data.toList s.data.toList with
          | true =>
            rw [hmt] at hone
            have hfin : anyS (toL l) s.data.toList = false := by rw [hany.out, hone] <;> rfl
            replace hfin := Lib.hid hfin
            clear hany hone
            repeat' ((fail_if_success at_builtin); (first | go_skip | go_guarded | go_step))
            go_ret
            exact ⟨ret_b (hfin.out).symm, hb3⟩
          | false =>
            rw [hmt] at hone
            have hfin : anyS (toL l) s.data.toList = anyR s.data.toList (toL (l.take i)).reverse := by rw [hany.out, hone] <;> rfl
            replace hfin := Lib.hid hfin
            clear hany hone
            repeat' ((fail_if_success at_builtin); (first | go_skip | go_guarded | go_step))
            go_roundw
            case rel => exact ⟨i, by omega, rfl, hb3, hfin.out⟩
            case measure => simp [intOf] <;> omega
        · have q33 : ((p[0].toNat : Int) == 33) = false := by simp; omega
          have hhd : ¬ p.data.toList.head?.map UInt8.toNat = some 33 := by rw [List.head?_eq_getElem?, hat]; simp [h33]
          have hone : oneA p.data.toList s.data.toList = if matchS p.data.toList s.data.toList = true then some true else none := by
            unfold oneA
            rw [if_neg hhd]
          clear hhd
          replace hone := Lib.hid hone
          repeat' ((fail_if_success at_builtin); (first | go_skip | go_guarded | go_step))
          replace hone := hone.out
          refine (C.out p hps).mono ?_
          rintro e w2 ⟨rfl, hb2⟩
          have hb3 := hb.trans (hb2.mono hb.size)
          clear C
          dsimp only
          cases hmt : matchS (p).data.toList s.data.toList with
          | true =>
            rw [hmt] at hone
            have hfin : anyS (toL l) s.data.toList = true := by rw [hany.out, hone] <;> rfl
            replace hfin := Lib.hid hfin
            clear hany hone
            repeat' ((fail_if_success at_builtin); (first | go_skip | go_guarded | go_step))
            go_ret
            exact ⟨ret_b (hfin.out).symm, hb3⟩
          | false =>
            rw [hmt] at hone
            have hfin : anyS (toL l) s.data.toList = anyR s.data.toList (toL (l.take i)).reverse := by rw [hany.out, hone] <;> rfl
            replace hfin := Lib.hid hfin
            clear hany hone
            repeat' ((fail_if_success at_builtin); (first | go_skip | go_guarded | go_step))
            go_roundw
            case rel => exact ⟨i, by omega, rfl, hb3, hfin.out⟩
            case measure => simp [intOf] <;> omega
end Go.Proofs.YtgloblokkejgmaaDoor
