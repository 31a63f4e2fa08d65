/- Secret: patterns one by one. -/
import Derived.Test.YtgloblokkejgmaaDoorSeI
import Derived.Test.YtgloblokkejgmaaDoorGrM
namespace Go.Proofs.YtgloblokkejgmaaDoor
open Go.RowKit
def vgE (l : List UInt8) : Int := match prsS l with
  | some _ => 0
  | none => if 4096 < l.length then 3 else 5
theorem vgE_big {l : List UInt8} (h : 4096 < l.length) : vgE l = 3 := by
  unfold vgE prsS
  rw [if_pos h]
  dsimp only
  rw [if_pos h]
theorem vgE_none {l : List UInt8} (h : ¬ 4096 < l.length) (hp : prsF l.length l = none) : vgE l = 5 := by
  unfold vgE prsS
  rw [if_neg h, hp]
  dsimp only
  rw [if_neg h]
theorem vgE_some {l : List UInt8} {es : List El} (h : ¬ 4096 < l.length) (hp : prsF l.length l = some es) : vgE l = 0 := by
  unfold vgE prsS
  rw [if_neg h, hp]
def RetQ (w : World) (l : List UInt8) (e : Ending) (w' : World) : Prop := ∃ A n c, e = .returned (.tuple #[.slice A n c, .int .i64 (vgE l)]) ∧ Below w.heap.size w w'
set_option maxRecDepth 100000 in
set_option maxHeartbeats 800000 in
theorem parseE_any (s : ByteArray) (w : World) (hs : s.size ≤ 1000000) : Calls Tryd.prog 73 #[.string s] w (RetQ w s.data.toList) := by
  have hsz : s.data.toList.length = s.size := by simp
  generalize hl : s.data.toList = l at *
  go_enter Tryd.func73, Tryd.ntmps73
  by_cases hb : 4096 < s.size
  · have hv := vgE_big (l := l) (by omega)
    replace hv := Lib.hid hv
    have hb' : (4096 : Int) < (s.size : Int) := by omega
    repeat' ((fail_if_success at_builtin); (first | go_skip | go_guarded | go_step))
    go_ret2
    exact ⟨none, 0, 0, by rw [hv.out]; rfl, Below.refl _ _⟩
  · have hng : ¬ 4096 < l.length := by omega
    have hN := fun h => vgE_none hng h
    have hY := fun es h => vgE_some (es := es) hng h
    rw [hsz] at hN hY
    replace hN := Lib.hid hN
    replace hY := Lib.hid hY
    replace hng := Lib.hid hng
    have hb' : ¬ ((4096 : Int) < (s.size : Int)) := by omega
    repeat' ((fail_if_success at_builtin); (first | go_skip | go_guarded | go_step))
    go_loopw [0, 4] (fun u0 u4 wr => ∃ (r : ByteArray) (k : Nat) (es : List El), u0 = .string r ∧ r.size ≤ k ∧ r.size + es.length ≤ s.size ∧ OwnE w wr u4 es ∧ prsF s.size l = (prsF k r.data.toList).map (es ++ ·)) (fun u0 _ _ => slenG u0)
    case atStart => exact ⟨s, s.size, [], rfl, by omega, by simp, Own.nil_ _ _ _, by rw [hl]; simp⟩
    case round =>
      obtain ⟨r, k, es, rfl, hrk, hrs, hown, hpr⟩ := hrel
      have hbr := hown.2
      have hrl : r.data.toList.length = r.size := by simp
      by_cases h0 : r.size = 0
      · have hl0 : r.data.toList = [] := List.eq_nil_of_length_eq_zero (by omega)
        have hr : r = ByteArray.empty := by
          cases r with
          | mk d => simp at hl0; subst hl0; rfl
        subst hr
        obtain ⟨A, c, rfl⟩ := Own.slice_form hown
        have hpr2 : prsF s.size l = some es := by
          rw [hpr, hl0]
          cases k <;> simp [prsF]
        clear hpr
        replace hpr2 := Lib.hid hpr2
        repeat' ((fail_if_success at_builtin); (first | go_skip | go_guarded | go_step))
        go_ret2
        exact ⟨A, _, c, by rw [hY.out _ hpr2.out]; rfl, hown.2⟩
      · have h0' : 0 < r.size := by omega
        have hne2 := toList_ne h0'
        obtain ⟨k, rfl⟩ : ∃ k', k = k' + 1 := ⟨k - 1, by omega⟩
        have hne : r.data.toList ≠ [] := by
          intro h; rw [h] at hrl; simp at hrl; omega
        rw [prsF_step hne] at hpr
        have C := first_any r wr (by omega) h0'
        have hext := fun n => ext_list r n r.size
        replace C := Lib.hid C
        replace hpr := Lib.hid hpr
        replace hext := Lib.hid hext
        repeat' ((fail_if_success at_builtin); (first | go_skip | go_guarded | go_step))
        refine C.out.mono ?_
        rintro e w1 ⟨E, n, rfl, hnone, hsome, hb1⟩
        dsimp only
        cases hq : fstS r.data.toList with
        | none =>
          have hn0 := hnone hq
          have hn1 : (n : Int) = 0 := by omega
          have hpr2 : prsF s.size l = none := by rw [hpr.out, hq]; rfl
          clear hpr hext hsome hnone C
          replace hpr2 := Lib.hid hpr2
          repeat' ((fail_if_success at_builtin); (first | go_skip | go_guarded | go_step))
          go_ret2
          exact ⟨none, 0, 0, by rw [hN.out hpr2.out]; rfl, (hbr.trans (hb1.mono hbr.size)).alloc (Nat.le_trans hbr.size hb1.size) _⟩
        | some q =>
          obtain ⟨E2, n2⟩ := q
          obtain ⟨rfl, rfl⟩ := hsome E2 n2 hq
          obtain ⟨hfit, hn1, hn2⟩ := fstS_ok hq
          rw [hrl] at hn2
          have hpr2 : prsF s.size l = (prsF k (r.data.toList.drop n)).map (es ++ [E] ++ ·) := by
            rw [hpr.out, hq]
            dsimp only
            rw [Option.map_map]
            congr 1
            funext x
            simp
          clear hpr hsome hnone C
          replace hpr2 := Lib.hid hpr2
          have hn0 : ((n : Int) == 0) = false := by simp; omega
          have hnz : ¬ ((n : Int) = 0) := by omega
          have hn3 : (n : Int) ≤ (r.size : Int) := by omega
          have hn4 : (0 : Int) ≤ (n : Int) := by omega
          have hown1 : OwnE w w1 _ es := hown.below hb1
          have hb40 : (es.length + 1) * 40 ≤ 140737488355328 := by omega
          have hb2 := (Below.refl w1.heap.size w1).alloc (Nat.le_refl _) (.cells (ecells E) 110)
          have hown2 : OwnE w _ _ es := hown1.below hb2
          clear hb2 hown1 hown
          repeat' ((fail_if_success at_builtin); (first | go_skip | go_guarded | go_step))
          refine wp_app1 hown2 Tryd.underlying97 el_info hb40 ?_
          intro v3 w3 hown3 _
          have hdl : (r.extract n r.size).data.toList = r.data.toList.drop n := by
            rw [hext.out]; exact List.take_of_length_le (by rw [List.length_drop, hrl]; omega)
          have hds : (r.extract n r.size).size = r.size - n := by
            have h := congrArg List.length hdl
            rw [List.length_drop, hrl] at h
            rw [← h]; simp
          replace hdl := Lib.hid hdl
          replace hds := Lib.hid hds
          repeat' ((fail_if_success at_builtin); (first | go_skip | go_guarded | go_step))
          go_roundw
          case rel =>
            refine ⟨_, k, es ++ [E], rfl, ?_, ?_, ?_, ?_⟩
            · rw [hds.out]; omega
            · rw [hds.out]; simp; omega
            · unfold OwnE elcs
              rw [List.length_append, List.flatMap_append, List.flatMap_cons, List.flatMap_nil, List.append_nil]
              exact hown3
            · rw [hdl.out]; exact hpr2.out
          case measure => simp only [slenG]; rw [hds.out]; omega
set_option maxRecDepth 100000 in
set_option maxHeartbeats 2000000 in
theorem gvalid_any (s : ByteArray) (w : World) (hs : s.size ≤ 1000000) : Calls Tryd.prog 53 #[.string s] w fun e w' => e = .returned (.int .i64 (vgE s.data.toList)) ∧ Below w.heap.size w w' := by
  have C := parseE_any s w hs
  unfold RetQ at C
  generalize vgE s.data.toList = q at *
  replace C := Lib.hid C
  go_enter Tryd.func53, Tryd.ntmps53
  repeat' ((fail_if_success at_builtin); (first | go_skip | go_guarded | go_step))
  refine C.out.mono ?_
  clear C
  rintro e w1 ⟨A, n, c, rfl, hb1⟩
  dsimp only
  repeat' ((fail_if_success at_builtin); (first | go_skip | go_guarded | go_step))
  go_ret
  exact ⟨rfl, hb1⟩
set_option maxRecDepth 100000 in
set_option maxHeartbeats 2000000 in
theorem rgvalid_any (s : ByteArray) (w : World) (hs : s.size ≤ 800000) : Calls Tryd.prog 56 #[.string s] w fun e w' => e = .returned (.int .i64 (vgE s.data.toList)) ∧ Below w.heap.size w w' := by
  have C := elems_any s w hs
  have hsz : s.data.toList.length = s.size := by simp
  have hpr := prs_rel s.data.toList
  by_cases hb : 4096 < s.size
  · have hv := vgE_big (l := s.data.toList) (by omega)
    rw [hv]
    have hb' : (4096 : Int) < (s.size : Int) := by omega
    clear C hpr
    go_enter Tryd.func56, Tryd.ntmps56
    repeat' ((fail_if_success at_builtin); (first | go_skip | go_guarded | go_step))
    go_ret
    exact ⟨rfl, Below.refl _ _⟩
  · have hb' : ¬ ((4096 : Int) < (s.size : Int)) := by omega
    cases hq : prsR s.data.toList with
    | none =>
      rw [hq] at hpr C
      have hq2 : prsS s.data.toList = none := by
        cases h : prsS s.data.toList with
        | none => rfl
        | some es => rw [h] at hpr; exact hpr.elim
      have hv : vgE s.data.toList = 5 := by
        unfold vgE
        rw [hq2]
        dsimp only
        rw [if_neg (by omega)]
      rw [hv]
      clear hpr hq2 hv hq hsz
      unfold RetRE at C
      replace C := Lib.hid C
      go_enter Tryd.func56, Tryd.ntmps56
      repeat' ((fail_if_success at_builtin); (first | go_skip | go_guarded | go_step))
      refine C.out.mono ?_
      clear C
      rintro e w1 ⟨rfl, hb1⟩
      dsimp only
      repeat' ((fail_if_success at_builtin); (first | go_skip | go_guarded | go_step))
      go_ret
      exact ⟨rfl, hb1⟩
    | some rs =>
      rw [hq] at hpr C
      have hv : vgE s.data.toList = 0 := by
        cases h : prsS s.data.toList with
        | none => rw [h] at hpr; exact hpr.elim
        | some es => unfold vgE; rw [h]
      rw [hv]
      clear hpr hv hq hsz
      unfold RetRE at C
      replace C := Lib.hid C
      go_enter Tryd.func56, Tryd.ntmps56
      repeat' ((fail_if_success at_builtin); (first | go_skip | go_guarded | go_step))
      refine C.out.mono ?_
      clear C
      rintro e w1 ⟨A, c, cs, rfl, _, _, hb1⟩
      dsimp only
      repeat' ((fail_if_success at_builtin); (first | go_skip | go_guarded | go_step))
      go_ret
      exact ⟨rfl, hb1⟩
/-- a pattern without its exclamation mark -/
def patB (s : ByteArray) : ByteArray := if s.data.toList.head? = some 33 then s.extract 1 s.size else s
theorem patB_list (s : ByteArray) : (patB s).data.toList = patP s.data.toList := by
  unfold patB patP
  split
  · rw [ext_list, List.take_of_length_le (by rw [List.length_drop]; simp), List.drop_one]
  · rfl
theorem patB_size (s : ByteArray) : (patB s).size ≤ s.size := by
  unfold patB
  split
  · rw [ByteArray.size_extract]; omega
  · exact Nat.le_refl _
theorem head_33 {s : ByteArray} (h : 0 < s.size) : ((s.extract 0 1).toList == [33]) = decide (s.data.toList.head? = some 33) := by
  have h1 := str_at h
  have h2 : (s.extract 0 1).toList = [s[0]] := by
    rw [ByteArray.toList_eq, ext_list, List.drop_zero]
    cases hl : s.data.toList with
    | nil => rw [hl] at h1; simp at h1
    | cons a t =>
      rw [hl] at h1
      simp at h1
      simp [h1]
  have h3 : s.data.toList.head? = some s[0] := by rw [List.head?_eq_getElem?]; exact h1
  rw [h2, h3, Bool.eq_iff_iff]
  simp
set_option maxRecDepth 100000 in
set_option maxHeartbeats 2000000 in
theorem hasP_any (s : ByteArray) (w : World) (hs : s.size ≤ 1000000) : Calls Tryd.prog 87 #[.string s, .string ⟨#[33]⟩] w fun e w' => e = .returned (.bool (decide (s.data.toList.head? = some 33))) ∧ w' = w := by
  by_cases h : 0 < s.size
  · rw [← head_33 h]
    have h1 : (1 : Int) ≤ (s.size : Int) := by omega
    go_enter Tryd.func87, Tryd.ntmps87
    repeat' ((fail_if_success at_builtin); (first | go_skip | go_guarded | go_step))
    go_ret
    exact ⟨rfl, rfl⟩
  · have h0 : s.data.toList = [] := List.eq_nil_of_length_eq_zero (by rw [list_size]; omega)
    rw [h0]
    have h1 : ¬ (1 : Int) ≤ (s.size : Int) := by omega
    go_enter Tryd.func87, Tryd.ntmps87
    repeat' ((fail_if_success at_builtin); (first | go_skip | go_guarded | go_step))
    go_ret
    exact ⟨rfl, rfl⟩
set_option maxRecDepth 100000 in
set_option maxHeartbeats 2000000 in
theorem trimL_any (s : ByteArray) (w : World) (hs : s.size ≤ 1000000) : Calls Tryd.prog 74 #[.string s, .string ⟨#[33]⟩] w fun e w' => e = .returned (.string (patB s)) ∧ w' = w := by
  have C := hasP_any s w hs
  have hp : patB s = if decide (s.data.toList.head? = some 33) = true then s.extract 1 s.size else s := by unfold patB; simp only [decide_eq_true_eq]
  have h0 : s.size = 0 → decide (s.data.toList.head? = some 33) = false := fun h => by
    rw [show s.data.toList = [] from List.eq_nil_of_length_eq_zero (by rw [list_size]; omega)]; rfl
  generalize decide (s.data.toList.head? = some 33) = q at *
  replace C := Lib.hid C
  replace hp := Lib.hid hp
  cases q with
  | true =>
    have h1 : (1 : Int) ≤ (s.size : Int) := by
      by_cases h : s.size = 0
      · cases h0 h
      · omega
    clear h0
    go_enter Tryd.func74, Tryd.ntmps74
    repeat' ((fail_if_success at_builtin); (first | go_skip | go_guarded | go_step))
    refine C.out.mono ?_
    clear C
    rintro e w1 ⟨rfl, rfl⟩
    dsimp only
    repeat' ((fail_if_success at_builtin); (first | go_skip | go_guarded | go_step))
    go_ret
    exact ⟨by rw [hp.out, if_pos rfl]; rfl, rfl⟩
  | false =>
    clear h0
    go_enter Tryd.func74, Tryd.ntmps74
    repeat' ((fail_if_success at_builtin); (first | go_skip | go_guarded | go_step))
    refine C.out.mono ?_
    clear C
    rintro e w1 ⟨rfl, rfl⟩
    dsimp only
    repeat' ((fail_if_success at_builtin); (first | go_skip | go_guarded | go_step))
    go_ret
    exact ⟨by rw [hp.out, if_neg (by simp)]; rfl, rfl⟩
set_option maxRecDepth 100000 in
set_option maxHeartbeats 2000000 in
theorem trim_any (s : ByteArray) (w : World) (hs : s.size ≤ 1000000) : Calls Tryd.prog 54 #[.string s, .string ⟨#[33]⟩] w fun e w' => e = .returned (.string (patB s)) ∧ w' = w := by
  have C := trimL_any s w hs
  generalize patB s = q at *
  replace C := Lib.hid C
  go_enter Tryd.func54, Tryd.ntmps54
  repeat' ((fail_if_success at_builtin); (first | go_skip | go_guarded | go_step))
  refine C.out.mono ?_
  clear C
  rintro e w1 ⟨rfl, rfl⟩
  dsimp only
  repeat' ((fail_if_success at_builtin); (first | go_skip | go_guarded | go_step))
  go_ret
  exact ⟨rfl, rfl⟩
set_option maxRecDepth 100000 in
set_option maxHeartbeats 2000000 in
theorem pattern_any (s : ByteArray) (w : World) (hs : s.size ≤ 1000000) : Calls Tryd.prog 57 #[.string s] w fun e w' => e = .returned (.string (patB s)) ∧ w' = w := by
  by_cases h : 0 < s.size
  · have h1 : (0 : Int) < (s.size : Int) := by omega
    have h2 : (1 : Int) ≤ (s.size : Int) := by omega
    have h3 : s.data.toList.head? = some s[0] := by rw [List.head?_eq_getElem?]; exact str_at h
    by_cases h33 : s[0].toNat = 33
    · have q33 : ((s[0].toNat : Int) == 33) = true := by simp; omega
      have hp : patB s = s.extract 1 s.size := by unfold patB; rw [h3, if_pos (by rw [UInt8.toNat_inj.1 (show s[0].toNat = (33 : UInt8).toNat from h33)])]
      clear h3
      replace hp := Lib.hid hp
      go_enter Tryd.func57, Tryd.ntmps57
      repeat' ((fail_if_success at_builtin); (first | go_skip | go_guarded | go_step))
      go_ret
      exact ⟨by rw [hp.out]; rfl, rfl⟩
    · have q33 : ((s[0].toNat : Int) == 33) = false := by simp; omega
      have hp : patB s = s := by unfold patB; rw [h3, if_neg (by intro e; injection e with e; rw [e] at h33; exact h33 rfl)]
      clear h3
      replace hp := Lib.hid hp
      go_enter Tryd.func57, Tryd.ntmps57
      repeat' ((fail_if_success at_builtin); (first | go_skip | go_guarded | go_step))
      go_ret
      exact ⟨by rw [hp.out]; rfl, rfl⟩
  · have h1 : ¬ (0 : Int) < (s.size : Int) := by omega
    have hp : patB s = s := by unfold patB; rw [show s.data.toList = [] from List.eq_nil_of_length_eq_zero (by rw [list_size]; omega)]; rfl
    replace hp := Lib.hid hp
    go_enter Tryd.func57, Tryd.ntmps57
    repeat' ((fail_if_success at_builtin); (first | go_skip | go_guarded | go_step))
    go_ret
    exact ⟨by rw [hp.out]; rfl, rfl⟩
end Go.Proofs.YtgloblokkejgmaaDoor
