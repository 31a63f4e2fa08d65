/- The law about forks. -/
import Derived.Test.YtlpeblgcniggmaaDoorTrLaw1
namespace Go.Proofs.YtlpeblgcniggmaaDoor
open Go.RowKit
def bang (p : List UInt8) : Bool := decide (p.head?.map UInt8.toNat = some 33)
theorem anyR_app (s : List UInt8) : ∀ (l m : List (List UInt8)), (∀ p ∈ l, bang p = false) → anyR s m = true → anyR s (l ++ m) = true
  | [], _, _, h => h
  | p :: l, m, hb, h => by
    have h1 := hb p (List.mem_cons_self)
    have h2 := anyR_app s l m (fun q hq => hb q (List.mem_cons_of_mem _ hq)) h
    rw [List.cons_append]
    unfold anyR
    unfold bang at h1
    unfold oneA
    rw [if_neg (by simpa using h1)]
    split
    · rename_i b hb2
      split at hb2
      · injection hb2 with hb2; exact hb2.symm
      · cases hb2
    · exact h2
theorem anyS_app {s : List UInt8} {l m : List (List UInt8)} (hm : ∀ p ∈ m, bang p = false) (h : anyS l s = true) : anyS (l ++ m) s = true := by
  unfold anyS at *
  rw [List.reverse_append]
  exact anyR_app s _ _ (fun p hp => hm p (List.mem_reverse.1 hp)) h
theorem lvl_app {o : Org} {l m : List (List UInt8)} (h0 : orgE o = 0) (hf : o.fork = false) (hm : ∀ p ∈ m, bang p = false) : 1 ≤ lvlS o l ∧ lvlS o l ≤ lvlS o (l ++ m) := by
  have hn : ¬ (orgE o ≠ 0 ∨ o.fork = true) := by rw [h0, hf]; simp
  unfold lvlS
  rw [if_neg hn, if_neg hn]
  cases ha : anyS l o.ref.data.toList with
  | true => rw [anyS_app hm ha]; simp
  | false => simp only [Bool.false_eq_true, if_false]; refine ⟨by omega, ?_⟩; split <;> omega
theorem strs_one (l : List ByteArray) : ∀ u ∈ l.map Value.string, u.oneCell' = true := by
  intro u hu
  obtain ⟨c, _, rfl⟩ := List.mem_map.1 hu
  rfl
set_option maxRecDepth 100000 in
set_option maxHeartbeats 4000000 in
theorem forks_law (o : Org) (ps ms : List ByteArray) (A1 A2 : Option Addr) (c1 c2 : Nat) (w : World) (hR : Ready w) (h1 : o.prj.size ≤ 9223372036854775807) (h2 : o.ref.size ≤ 9223372036854775807)
    (hs1 : Seq w w.heap.size 1 A1 ps.length (ps.map Value.string)) (hs2 : Seq w w.heap.size 1 A2 ms.length (ms.map Value.string)) (hl1 : ps.length ≤ 9223372036854775807) (hl2 : ms.length ≤ 9223372036854775807) (hm1 : ∀ p ∈ ps, p.size ≤ 9223372036854775807) (hm2 : ∀ p ∈ ms, p.size ≤ 9223372036854775807) :
    Calls Tryd.prog 6 #[.agg (ocells o), .slice A1 ps.length c1, .slice A2 ms.length c2] w fun e w' => e = .returned (.bool true) ∧ Below w.heap.size w w' := by
  obtain ⟨op, orf, ofk⟩ := o
  dsimp only at h1 h2
  have hb1 := (Below.refl w.heap.size w).alloc (Nat.le_refl _) (.cells (ocells ⟨op, orf, ofk⟩) 23)
  have hz : w.heap.size < (w.alloc (.cells (ocells ⟨op, orf, ofk⟩) 23)).heap.size := by simp
  have d0 : (w.alloc (.cells (ocells ⟨op, orf, ofk⟩) 23)).cell? ⟨w.heap.size, 0, none⟩ = some (.string op) := by simp [go_sem]
  have d1 : (w.alloc (.cells (ocells ⟨op, orf, ofk⟩) 23)).cell? ⟨w.heap.size, 1, none⟩ = some (.string orf) := by simp [go_sem]
  have d2 : (w.alloc (.cells (ocells ⟨op, orf, ofk⟩) 23)).cell? ⟨w.heap.size, 2, none⟩ = some (.bool ofk) := by simp [go_sem]
  go_enter Tryd.func6, Tryd.ntmps6
  repeat' ((fail_if_success at_builtin); (first | go_skip | go_guarded | go_step))
  generalize w.alloc (.cells (ocells ⟨op, orf, ofk⟩) 23) = w1 at *
  replace hs1 := (hs1.below hb1).more hb1.size
  replace hs2 := (hs2.below hb1).more hb1.size
  have hR1 := hR.below hb1
  have CA := fun w' (h : Below w1.heap.size w1 w') => awake_any w' (hR1.below h)
  have CF1 := fun w' (h : Below w1.heap.size w1 w') => few_any ps A1 c1 w' ((hs1.below h).more h.size) hl1 hm1
  have CF2 := fun w' (h : Below w1.heap.size w1 w') => few_any ms A2 c2 w' ((hs2.below h).more h.size) hl2 hm2
  replace CA := Lib.hid CA
  replace CF1 := Lib.hid CF1
  replace CF2 := Lib.hid CF2
  refine (short_any ⟨op, orf, ofk⟩ _ h1 h2).mono ?_
  rintro e w2 ⟨bs, rfl, hk2, hsh⟩
  replace hsh := Lib.hid hsh
  dsimp only
  cases bs with
  | false =>
    repeat' ((fail_if_success at_builtin); (first | go_skip | go_guarded | go_step))
    refine (CA.out _ hk2).mono ?_
    rintro e w9 ⟨rfl, hb9⟩
    dsimp only
    repeat' ((fail_if_success at_builtin); (first | go_skip | go_guarded | go_step))
    go_ret
    exact ⟨rfl, hb1.trans ((hk2.trans (hb9.mono hk2.size)).mono hb1.size)⟩
  | true =>
    repeat' ((fail_if_success at_builtin); (first | go_skip | go_guarded | go_step))
    refine (CF1.out _ hk2).mono ?_
    rintro e w3 ⟨b1, rfl, hb23, hf1⟩
    have hk3 := hk2.trans (hb23.mono hk2.size)
    replace hf1 := Lib.hid hf1
    dsimp only
    cases b1 with
    | false =>
      repeat' ((fail_if_success at_builtin); (first | go_skip | go_guarded | go_step))
      refine (CA.out _ hk3).mono ?_
      rintro e w9 ⟨rfl, hb9⟩
      dsimp only
      repeat' ((fail_if_success at_builtin); (first | go_skip | go_guarded | go_step))
      go_ret
      exact ⟨rfl, hb1.trans ((hk3.trans (hb9.mono hk3.size)).mono hb1.size)⟩
    | true =>
      repeat' ((fail_if_success at_builtin); (first | go_skip | go_guarded | go_step))
      refine (CF2.out _ hk3).mono ?_
      rintro e w4 ⟨b2, rfl, hb34, hf2⟩
      have hk4 := hk3.trans (hb34.mono hk3.size)
      replace hf2 := Lib.hid hf2
      dsimp only
      cases b2 with
      | false =>
        repeat' ((fail_if_success at_builtin); (first | go_skip | go_guarded | go_step))
        refine (CA.out _ hk4).mono ?_
        rintro e w9 ⟨rfl, hb9⟩
        dsimp only
        repeat' ((fail_if_success at_builtin); (first | go_skip | go_guarded | go_step))
        go_ret
        exact ⟨rfl, hb1.trans ((hk4.trans (hb9.mono hk4.size)).mono hb1.size)⟩
      | true =>
        obtain ⟨hp1, hp2⟩ := hsh.out rfl
        obtain ⟨hpl, hpz⟩ := hf1.out rfl
        obtain ⟨hml, hmz⟩ := hf2.out rfl
        clear hsh hf1 hf2 hb23 hb34 CF1 CF2
        have d40 := (hk4.cell (p := ⟨w.heap.size, 0, none⟩) hz).trans d0
        have d41 := (hk4.cell (p := ⟨w.heap.size, 1, none⟩) hz).trans d1
        have d42 := (hk4.cell (p := ⟨w.heap.size, 2, none⟩) hz).trans d2
        repeat' ((fail_if_success at_builtin); (first | go_skip | go_guarded | go_step))
        refine (lev_any ⟨op, orf, ofk⟩ ps A1 c1 w4 (hR1.below hk4) ((hs1.below hk4).more hk4.size) (by omega) (fun p hp => by have := hpz p hp; omega) (by omega) (by omega)).mono ?_
        rintro e w5 ⟨rfl, hb45⟩
        have hk5 := hk4.trans (hb45.mono hk4.size)
        clear d40 d41 d42 hb45
        have d50 := (hk5.cell (p := ⟨w.heap.size, 0, none⟩) hz).trans d0
        have d51 := (hk5.cell (p := ⟨w.heap.size, 1, none⟩) hz).trans d1
        have d52 := (hk5.cell (p := ⟨w.heap.size, 2, none⟩) hz).trans d2
        dsimp only
        have hmz' := Lib.hid hmz
        clear hmz
        cases ofk with
        | true =>
          have hv : lvlS ⟨op, orf, true⟩ (toL ps) = 0 := by unfold lvlS; rw [if_pos (.inr rfl)]
          rw [hv]
          repeat' ((fail_if_success at_builtin); (first | go_skip | go_guarded | go_step))
          refine (CA.out _ hk5).mono ?_
          rintro e w9 ⟨rfl, hb9⟩
          dsimp only
          repeat' ((fail_if_success at_builtin); (first | go_skip | go_guarded | go_step))
          go_ret
          exact ⟨rfl, hb1.trans ((hk5.trans (hb9.mono hk5.size)).mono hb1.size)⟩
        | false =>
          repeat' ((fail_if_success at_builtin); (first | go_skip | go_guarded | go_step))
          refine (valid_any ⟨op, orf, false⟩ w5 (hR1.below hk5) (by omega) (by omega)).mono ?_
          rintro e w6 ⟨rfl, hb56⟩
          have hk6 := hk5.trans (hb56.mono hk5.size)
          clear d50 d51 d52 hb56
          dsimp only
          by_cases hE : orgE ⟨op, orf, false⟩ = 0
          · rw [hE]
            have hlv := fun (h : ∀ p ∈ toL ms, bang p = false) => lvl_app (l := toL ps) hE rfl h
            replace hlv := Lib.hid hlv
            generalize hL : lvlS ⟨op, orf, false⟩ (toL ps) = L at *
            repeat' ((fail_if_success at_builtin); (first | go_skip | go_guarded | go_step))
            go_loopw [8] (fun u8 wr => ∃ i : Nat, i ≤ ms.length ∧ u8 = .int .i64 (i : Int) ∧ Below w1.heap.size w1 wr ∧ ∀ (j : Nat) p, j < i → ms[j]? = some p → bang p.data.toList = false) (fun u8 _ => ms.length - (intOf u8).toNat)
            case atStart => exact ⟨0, by omega, rfl, hk6, fun j p h => by omega⟩
            case round =>
              obtain ⟨i, hi, rfl, hk6, hall⟩ := hrel
              replace hall := Lib.hid hall
              by_cases hlt : i < ms.length
              · have i1 : (i : Int) < (ms.length : Int) := by omega
                have i0 : (0 : Int) ≤ (i : Int) := by omega
                obtain ⟨b, o', rfl, hbB, hcell⟩ := hs2.2 (by omega)
                have hx : ms[i]? = some ms[i] := List.getElem?_eq_getElem hlt
                have hc0 := (hk6.cell (p := ⟨b, o' + i, none⟩) hbB).trans (hcell i (.string ms[i]) (by rw [List.getElem?_map, hx]; rfl))
                have hps := hmz'.out _ (List.getElem_mem hlt)
                clear hcell
                have hx := Lib.hid hx
                generalize hp : ms[i] = p at *
                have hpl : p.data.toList.length = p.size := by simp
                have hnext : bang p.data.toList = false → ∀ (j : Nat) q, j < i + 1 → ms[j]? = some q → bang q.data.toList = false := by
                  intro hb j q hj hq
                  by_cases hji : j = i
                  · subst hji
                    have := hx.out
                    rw [hq] at this
                    injection this with this
                    rw [this]
                    exact hb
                  · exact hall.out j q (by omega) hq
                replace hnext := Lib.hid hnext
                by_cases hp0 : p.size = 0
                · have hp0' : ¬ (0 : Int) < (p.size : Int) := by omega
                  have hbg : bang p.data.toList = false := by
                    have hl0 : p.data.toList = [] := List.eq_nil_of_length_eq_zero (by omega)
                    rw [hl0]; rfl
                  repeat' ((fail_if_success at_builtin); (first | go_skip | go_guarded | go_step))
                  go_roundw
                  case rel => exact ⟨i + 1, by omega, by go_num, hk6, hnext.out hbg⟩
                  case measure => simp [intOf]; omega
                · have hp0' : (0 : Int) < (p.size : Int) := by omega
                  have hat := str_at (s := p) (i := 0) (by omega)
                  by_cases h33 : p[0].toNat = 33
                  · have q33 : (p[0].toNat : Int) = 33 := by omega
                    repeat' ((fail_if_success at_builtin); (first | go_skip | go_guarded | go_step))
                    refine (CA.out _ hk6).mono ?_
                    rintro e w9 ⟨rfl, hb9⟩
                    dsimp only
                    repeat' ((fail_if_success at_builtin); (first | go_skip | go_guarded | go_step))
                    go_ret
                    exact ⟨rfl, hb1.trans ((hk6.trans (hb9.mono hk6.size)).mono hb1.size)⟩
                  · have q33 : ((p[0].toNat : Int) == 33) = false := by simp; omega
                    have hbg : bang p.data.toList = false := by
                      unfold bang
                      rw [List.head?_eq_getElem?, hat]
                      simpa using h33
                    repeat' ((fail_if_success at_builtin); (first | go_skip | go_guarded | go_step))
                    go_roundw
                    case rel => exact ⟨i + 1, by omega, by go_num, hk6, hnext.out hbg⟩
                    case measure => simp [intOf]; omega
              · have i1 : ¬ (i : Int) < (ms.length : Int) := by omega
                have hno : ∀ p ∈ toL ms, bang p = false := by
                  intro p hp
                  obtain ⟨q, hq, rfl⟩ := List.mem_map.1 hp
                  obtain ⟨j, hj, rfl⟩ := List.mem_iff_getElem.1 hq
                  exact hall.out j _ (by omega) (List.getElem?_eq_getElem hj)
                obtain ⟨g1, g2⟩ := hlv.out hno
                clear hno hall hlv
                repeat' ((fail_if_success at_builtin); (first | go_skip | go_guarded | go_step))
                refine wp_appS (Own.up hk6 (Own.nil_ _ _ _)) Tryd.underlying24 str_info (hs1.below hk6) (strs_one _) (by omega) ?_
                intro v7 w7 hown7 _
                have hk7 := hown7.2
                repeat' ((fail_if_success at_builtin); (first | go_skip | go_guarded | go_step))
                refine wp_appS hown7 Tryd.underlying24 str_info (hs2.below hk7) (strs_one _) (by omega) ?_
                intro v8 w8 hown8 _
                have hk8 := hown8.2
                rw [List.nil_append, ← List.map_append] at hown8
                obtain ⟨A8, c8, rfl⟩ := Own.slice_form hown8
                have hlen8 : 0 + ps.length + ms.length = (ps ++ ms).length := by simp
                rw [hlen8] at hown8 ⊢
                have hs8 := hown8.seq
                have htl : toL (ps ++ ms) = toL ps ++ toL ms := List.map_append
                rw [← htl] at g2
                clear hown7 hown8
                have d80 := (hk8.cell (p := ⟨w.heap.size, 0, none⟩) hz).trans d0
                have d81 := (hk8.cell (p := ⟨w.heap.size, 1, none⟩) hz).trans d1
                have d82 := (hk8.cell (p := ⟨w.heap.size, 2, none⟩) hz).trans d2
                have C8 := lev_any ⟨op, orf, false⟩ (ps ++ ms) A8 c8 w8 (hR1.below hk8) hs8 (by rw [List.length_append]; omega) (fun p hp => by
                  rcases List.mem_append.1 hp with hp | hp
                  · have := hpz p hp; omega
                  · have := hmz'.out p hp; omega) (by omega) (by omega)
                rw [List.length_append] at C8
                replace C8 := Lib.hid C8
                generalize lvlS ⟨op, orf, false⟩ (toL (ps ++ ms)) = L2 at *
                repeat' ((fail_if_success at_builtin); (first | go_skip | go_guarded | go_step))
                refine C8.out.mono ?_
                rintro e w9 ⟨rfl, hb89⟩
                have hk9 := hk8.trans (hb89.mono hk8.size)
                clear d80 d81 d82 hb89 C8
                dsimp only
                repeat' ((fail_if_success at_builtin); (first | go_skip | go_guarded | go_step))
                refine (CA.out _ hk9).mono ?_
                rintro e w10 ⟨rfl, hb10⟩
                dsimp only
                repeat' ((fail_if_success at_builtin); (first | go_skip | go_guarded | go_step))
                go_ret
                exact ⟨rfl, hb1.trans ((hk9.trans (hb10.mono hk9.size)).mono hb1.size)⟩
          · have hE' : (orgE ⟨op, orf, false⟩ == 0) = false := by simp; exact hE
            have hv : lvlS ⟨op, orf, false⟩ (toL ps) = 0 := by unfold lvlS; rw [if_pos (.inl hE)]
            rw [hv]
            repeat' ((fail_if_success at_builtin); (first | go_skip | go_guarded | go_step))
            refine (CA.out _ hk6).mono ?_
            rintro e w9 ⟨rfl, hb9⟩
            dsimp only
            repeat' ((fail_if_success at_builtin); (first | go_skip | go_guarded | go_step))
            go_ret
            exact ⟨rfl, hb1.trans ((hk6.trans (hb9.mono hk6.size)).mono hb1.size)⟩
end Go.Proofs.YtlpeblgcniggmaaDoor
