/- Secret: Small, Ascending. -/
import Derived.Test.YtgloblokkejgmaaDoorSeS
namespace Go.Proofs.YtgloblokkejgmaaDoor
open Go.RowKit
structure SecB (x : Sec) : Prop where
  refs : x.refs.length ≤ 9223372036854775807
  envs : x.envs.length ≤ 9223372036854775807
/-- a list of secrets of any size -/
structure SecsB (w : World) (A : Option Addr) (n c : Nat) (l : List Sec) : Prop where
  rd : RSlice rSec 5 w (fun b => b < w.heap.size) A n c l
  len : l.length ≤ 9223372036854775807
  each : ∀ x ∈ l, SecB x
theorem SecsB.below {w w' : World} {A : Option Addr} {n c : Nat} {l : List Sec} (h : SecsB w A n c l) (hb : Below w.heap.size w w') : SecsB w' A n c l :=
  ⟨(h.rd.below rSec_ok hb).more rSec_ok (fun _ hp => Nat.lt_of_lt_of_le hp hb.size), h.len, h.each⟩
def smallS (x : Sec) : Bool := decide (x.name.size ≤ 1000) && (decide (x.text.size ≤ 1000) && (shortL x.refs && shortL x.envs))
def smallL (l : List Sec) : Bool := decide (l.length ≤ 70) && l.all smallS
theorem smallS_out {x : Sec} (h : smallS x = true) : SecW x := by
  unfold smallS at h
  simp only [Bool.and_eq_true, decide_eq_true_eq] at h
  obtain ⟨h1, h2, h3, h4⟩ := h
  obtain ⟨a1, a2⟩ := shortL_out h3
  obtain ⟨b1, b2⟩ := shortL_out h4
  exact ⟨by omega, by omega, by omega, by omega, fun s hs => by have := a2 s hs; omega, fun s hs => by have := b2 s hs; omega⟩
theorem smallL_out {l : List Sec} (h : smallL l = true) : l.length ≤ 70 ∧ ∀ x ∈ l, SecW x := by
  unfold smallL at h
  rw [Bool.and_eq_true, List.all_eq_true] at h
  exact ⟨of_decide_eq_true h.1, fun x hx => smallS_out (h.2 x hx)⟩
theorem SecsB.secs {w : World} {A : Option Addr} {n c : Nat} {l : List Sec} (h : SecsB w A n c l) (hs : smallL l = true) : Secs w A n c l := ⟨h.rd, by have := (smallL_out hs).1; omega, (smallL_out hs).2⟩
set_option maxRecDepth 100000 in
set_option maxHeartbeats 2000000 in
theorem small_any (l : List Sec) (A : Option Addr) (n c : Nat) (w : World) (h : SecsB w A n c l) :
    Calls Tryd.prog 9 #[.slice A n c] w fun e w' => e = .returned (.bool (smallL l)) ∧ w' = w := by
  obtain ⟨R, hR⟩ : ∃ R, R = smallL l := ⟨_, rfl⟩
  rw [← hR]
  unfold smallL at hR
  obtain ⟨f, hf⟩ : ∃ f : Sec → Bool, f = smallS := ⟨_, rfl⟩
  rw [← hf] at hR
  have hn := h.rd.1
  have hl := h.len
  subst hn
  replace hR := Lib.hid hR
  replace hf := Lib.hid hf
  go_enter Tryd.func9, Tryd.ntmps9
  by_cases h70 : l.length ≤ 70
  · have h70' : ¬ (70 : Int) < (l.length : Int) := by omega
    replace hR := hR.out
    rw [decide_eq_true h70, Bool.true_and] at hR
    replace hR := Lib.hid hR
    repeat' ((fail_if_success at_builtin); (first | go_skip | go_guarded | go_step))
    go_loopw [3] (fun u3 wr => ∃ i : Nat, i ≤ l.length ∧ u3 = .int .i64 (i : Int) ∧ wr = w ∧ l.all f = (l.drop i).all f) (fun u3 _ => l.length - (intOf u3).toNat)
    case atStart => exact ⟨0, by omega, rfl, rfl, by simp⟩
    case round =>
      obtain ⟨i, hi, rfl, rfl, hp⟩ := hrel
      have i0 : (0 : Int) ≤ (i : Int) := by omega
      by_cases hlt : i < l.length
      · have i2 : IntKind.i64.wrap ((i : Int) + 1) = (i : Int) + 1 := IntWalk.i64_in _ (by omega)
        have i1 : (i : Int) < (l.length : Int) := by omega
        obtain ⟨x, hx⟩ : ∃ x, l[i]? = some x := ⟨_, List.getElem?_eq_getElem (by omega)⟩
        have hxb := h.each x (List.mem_of_getElem? hx)
        obtain ⟨g, o, A1, c1, A2, c2, rfl, hg, hS⟩ := sec_at h.rd hx
        have e0 := hS.e0
        have e1 := hS.e1
        have e3 := hS.e3
        have e4 := hS.e4
        have C1 := short_any x.refs A1 c1 _ hS.refs hxb.refs
        have C2 := short_any x.envs A2 c2 _ hS.envs hxb.envs
        rw [all_at hx] at hp
        have hfx : f x = (decide (x.name.size ≤ 1000) && (decide (x.text.size ≤ 1000) && (shortL x.refs && shortL x.envs))) := by rw [hf.out]; rfl
        clear hx hS
        generalize shortL x.refs = s1 at *
        generalize shortL x.envs = s2 at *
        replace C1 := Lib.hid C1
        replace C2 := Lib.hid C2
        by_cases t1 : x.name.size ≤ 1000
        · have t1' : ¬ (1000 : Int) < (x.name.size : Int) := by omega
          by_cases t2 : x.text.size ≤ 1000
          · have t2' : ¬ (1000 : Int) < (x.text.size : Int) := by omega
            rw [decide_eq_true t1, decide_eq_true t2, Bool.true_and, Bool.true_and] at hfx
            replace hp := Lib.hid hp
            replace hfx := Lib.hid hfx
            repeat' ((fail_if_success at_builtin); (first | go_skip | go_guarded | go_step))
            refine C1.out.mono ?_
            clear C1
            rintro e w1 ⟨rfl, rfl⟩
            dsimp only
            cases s1 with
            | false =>
              replace hfx := hfx.out
              rw [Bool.false_and] at hfx
              replace hp := hp.out
              rw [hfx, Bool.false_and] at hp
              have hr := hR.out
              rw [hp] at hr
              clear hfx hp hR
              replace hr := Lib.hid hr
              repeat' ((fail_if_success at_builtin); (first | go_skip | go_guarded | go_step))
              go_ret
              exact ⟨by rw [hr.out]; rfl, rfl⟩
            | true =>
              repeat' ((fail_if_success at_builtin); (first | go_skip | go_guarded | go_step))
              refine C2.out.mono ?_
              clear C2
              rintro e w1 ⟨rfl, rfl⟩
              dsimp only
              cases s2 with
              | false =>
                replace hfx := hfx.out
                rw [Bool.true_and] at hfx
                replace hp := hp.out
                rw [hfx, Bool.false_and] at hp
                have hr := hR.out
                rw [hp] at hr
                clear hfx hp hR
                replace hr := Lib.hid hr
                repeat' ((fail_if_success at_builtin); (first | go_skip | go_guarded | go_step))
                go_ret
                exact ⟨by rw [hr.out]; rfl, rfl⟩
              | true =>
                replace hfx := hfx.out
                replace hp := hp.out
                rw [hfx, Bool.true_and, Bool.true_and] at hp
                clear hfx
                replace hp := Lib.hid hp
                repeat' ((fail_if_success at_builtin); (first | go_skip | go_guarded | go_step))
                go_roundw
                case rel => exact ⟨i + 1, by omega, by first | rfl | go_num, by first | rfl | trivial, hp.out⟩
                case measure => (try go_num); (try simp [intOf]); (try omega)
          · have t2' : (1000 : Int) < (x.text.size : Int) := by omega
            rw [decide_eq_false t2, Bool.false_and, Bool.and_false] at hfx
            rw [hfx, Bool.false_and] at hp
            have hr := hR.out
            rw [hp] at hr
            clear hfx hp hR
            replace hr := Lib.hid hr
            repeat' ((fail_if_success at_builtin); (first | go_skip | go_guarded | go_step))
            go_ret
            exact ⟨by rw [hr.out]; rfl, rfl⟩
        · have t1' : (1000 : Int) < (x.name.size : Int) := by omega
          rw [decide_eq_false t1, Bool.false_and] at hfx
          rw [hfx, Bool.false_and] at hp
          have hr := hR.out
          rw [hp] at hr
          clear hfx hp hR
          replace hr := Lib.hid hr
          repeat' ((fail_if_success at_builtin); (first | go_skip | go_guarded | go_step))
          go_ret
          exact ⟨by rw [hr.out]; rfl, rfl⟩
      · have i1 : ¬ (i : Int) < (l.length : Int) := by omega
        rw [all_end (by omega)] at hp
        have hr := hR.out
        rw [hp] at hr
        clear hp hR
        replace hr := Lib.hid hr
        repeat' ((fail_if_success at_builtin); (first | go_skip | go_guarded | go_step))
        go_ret
        exact ⟨by rw [hr.out]; rfl, rfl⟩
  · have h70' : (70 : Int) < (l.length : Int) := by omega
    replace hR := hR.out
    rw [decide_eq_false h70, Bool.false_and] at hR
    replace hR := Lib.hid hR
    repeat' ((fail_if_success at_builtin); (first | go_skip | go_guarded | go_step))
    go_ret
    exact ⟨by rw [hR.out]; rfl, rfl⟩
theorem ascB_at {l : List Sec} {j : Nat} {x y : Sec} (hx : l[j]? = some x) (hy : l[j + 1]? = some y) : ascB (l.drop j) = (decide (cmpN x.nm y.nm < 0) && ascB (l.drop (j + 1))) := by
  obtain ⟨h1, rfl⟩ := List.getElem?_eq_some_iff.1 hx
  obtain ⟨h2, rfl⟩ := List.getElem?_eq_some_iff.1 hy
  rw [List.drop_eq_getElem_cons h1, List.drop_eq_getElem_cons h2]
  rfl
theorem ascB_end {l : List Sec} {j : Nat} (h : l.length ≤ j + 1) : ascB (l.drop j) = true := by
  have : (l.drop j).length ≤ 1 := by rw [List.length_drop]; omega
  generalize l.drop j = m at *
  match m, this with
  | [], _ => rfl
  | [_], _ => rfl
set_option maxRecDepth 100000 in
set_option maxHeartbeats 4000000 in
theorem refAscS_any (l : List Sec) (A : Option Addr) (n c : Nat) (w : World) (h : Secs w A n c l) :
    Calls Tryd.prog 16 #[.slice A n c] w fun e w' => e = .returned (.bool (ascB l)) ∧ Below w.heap.size w w' := by
  obtain ⟨R, hR⟩ : ∃ R, R = ascB l := ⟨_, rfl⟩
  rw [← hR]
  have hn := h.n
  have hl := h.len
  subst hn
  replace hR := Lib.hid hR
  go_enter Tryd.func16, Tryd.ntmps16
  repeat' ((fail_if_success at_builtin); (first | go_skip | go_guarded | go_step))
  go_loopw [3] (fun u3 wr => ∃ i : Nat, i ≤ l.length ∧ u3 = .int .i64 ((i : Int) + 1) ∧ Below w.heap.size w wr ∧ R = ascB (l.drop i)) (fun u3 _ => l.length + 1 - (intOf u3).toNat)
  case atStart => exact ⟨0, by omega, by first | rfl | go_num, Below.refl _ _, by rw [hR.out]; simp⟩
  case round =>
    clear hR
    obtain ⟨i, hi, rfl, hb, hp⟩ := hrel
    have i0 : (0 : Int) ≤ (i : Int) := by omega
    have i2 : IntKind.i64.wrap ((i : Int) + 1 + 1) = (i : Int) + 1 + 1 := IntWalk.i64_in _ (by omega)
    have i3 : IntKind.i64.wrap ((i : Int) + 1 - 1) = (i : Int) := by rw [IntWalk.i64_in _ (by omega)]; omega
    have i3b : IntKind.i64.wrap (i : Int) = (i : Int) := IntWalk.i64_in _ (by omega)
    have i4 : (0 : Int) ≤ (i : Int) + 1 := by omega
    have i5 : ((i : Int) + 1).toNat = i + 1 := by omega
    by_cases hlt : i + 1 < l.length
    · have i1 : (i : Int) + 1 < (l.length : Int) := by omega
      have i6 : (i : Int) < (l.length : Int) := by omega
      obtain ⟨x, hx⟩ : ∃ x, l[i]? = some x := ⟨_, List.getElem?_eq_getElem (by omega)⟩
      obtain ⟨y, hy⟩ : ∃ y, l[i + 1]? = some y := ⟨_, List.getElem?_eq_getElem (by omega)⟩
      have hxw := (h.each x (List.mem_of_getElem? hx)).name
      have hyw := (h.each y (List.mem_of_getElem? hy)).name
      obtain ⟨g, o, A1, c1, A2, c2, rfl, hg, hS⟩ := sec_at h.rd hx
      obtain ⟨g', o', B1, d1, B2, d2, hge, _, hS'⟩ := sec_at h.rd hy
      obtain ⟨rfl, rfl⟩ : g = g' ∧ o = o' := by injection hge with hge; injection hge with h1 h2; exact ⟨h1, h2⟩
      have hS2 := hS.below hg hb
      have hS3 := hS'.below hg hb
      rw [ascB_at hx hy] at hp
      clear hS hS' hge hx hy
      have hS0 : (Below w.heap.size w wr ∧ wr.cell? ⟨g, o + i * 5, none⟩ = some (.string x.name) ∧ wr.cell? ⟨g, o + (i + 1) * 5, none⟩ = some (.string y.name)) := ⟨hb, hS2.e0, hS3.e0⟩
      have keepS : ∀ v1 v2 : World, (Below w.heap.size w v1 ∧ v1.cell? ⟨g, o + i * 5, none⟩ = some (.string x.name) ∧ v1.cell? ⟨g, o + (i + 1) * 5, none⟩ = some (.string y.name)) → Below v1.heap.size v1 v2 → (Below w.heap.size w v2 ∧ v2.cell? ⟨g, o + i * 5, none⟩ = some (.string x.name) ∧ v2.cell? ⟨g, o + (i + 1) * 5, none⟩ = some (.string y.name)) := fun v1 v2 h hb => ⟨h.1.trans (hb.mono h.1.size), (hb.cell (p := ⟨g, _, none⟩) (Nat.lt_of_lt_of_le hg h.1.size)).trans h.2.1, (hb.cell (p := ⟨g, _, none⟩) (Nat.lt_of_lt_of_le hg h.1.size)).trans h.2.2⟩
      have hS1 : (Below w.heap.size w wr.drew ∧ wr.drew.cell? ⟨g, o + i * 5, none⟩ = some (.string x.name) ∧ wr.drew.cell? ⟨g, o + (i + 1) * 5, none⟩ = some (.string y.name)) := keepS _ _ hS0 ((Below.refl _ _).drew)
      replace keepS := Lib.hid keepS
      clear hS0 hS2 hS3
      go_upto_region 4 with (fail)
      refine wp_region_held_drew (S := fun w' => Below w.heap.size w w' ∧ w'.cell? ⟨g, o + i * 5, none⟩ = some (.string x.name) ∧ w'.cell? ⟨g, o + (i + 1) * 5, none⟩ = some (.string y.name)) (by kernel_rfl) ?_ (fun hHeld => ?_)
      · (try dsimp only)
        exact hS1
      refine tkY 0 (v := ?v10) rfl (.inl ⟨by rfl, ?hy10⟩) ?hr10
      case hy10 => (intro w hSw; (try dsimp only at hSw); go_simp; try with_reducible rfl)
      simp only [Act.put, List.getElem_toArray, List.getElem_cons_zero, List.setIfInBounds_toArray, List.set_cons_zero, List.set_cons_succ]
      refine tkY 1 (v := ?v11) rfl (.inl ⟨by rfl, ?hy11⟩) ?hr11
      case hy11 => (intro w hSw; (try dsimp only at hSw); go_simp; try with_reducible rfl)
      simp only [Act.put, List.getElem_toArray, List.getElem_cons_zero, List.getElem_cons_succ, List.setIfInBounds_toArray, List.set_cons_zero, List.set_cons_succ]
      refine tkY 2 (v := ?v12) rfl (.inl ⟨by rfl, ?hy12⟩) ?hr12
      case hy12 => (intro w hSw; (try dsimp only at hSw); go_simp; try with_reducible rfl)
      simp only [Act.put, List.getElem_toArray, List.getElem_cons_zero, List.getElem_cons_succ, List.setIfInBounds_toArray, List.set_cons_zero, List.set_cons_succ]
      refine tkY 3 (v := ?v13) rfl (.inl ⟨by rfl, ?hy13⟩) ?hr13
      case hy13 => (intro w hSw; (try dsimp only at hSw); go_simp; try with_reducible rfl)
      simp only [Act.put, List.getElem_toArray, List.getElem_cons_zero, List.getElem_cons_succ, List.setIfInBounds_toArray, List.set_cons_zero, List.set_cons_succ]
      refine tkY 4 (v := ?v14) rfl (.inl ⟨by rfl, ?hy14⟩) ?hr14
      case hy14 => (intro w hSw; (try dsimp only at hSw); go_simp; try with_reducible rfl)
      simp only [Act.put, List.getElem_toArray, List.getElem_cons_zero, List.getElem_cons_succ, List.setIfInBounds_toArray, List.set_cons_zero, List.set_cons_succ]
      refine tkY 5 (v := ?v15) rfl (.inl ⟨by rfl, ?hy15⟩) ?hr15
      case hy15 => (intro w hSw; (try dsimp only at hSw); go_simp; try with_reducible rfl)
      simp only [Act.put, List.getElem_toArray, List.getElem_cons_zero, List.getElem_cons_succ, List.setIfInBounds_toArray, List.set_cons_zero, List.set_cons_succ]
      refine tkY 6 (v := ?v16) rfl (.inl ⟨by rfl, ?hy16⟩) ?hr16
      case hy16 => (intro w hSw; (try dsimp only at hSw); go_simp; try with_reducible rfl)
      simp only [Act.put, List.getElem_toArray, List.getElem_cons_zero, List.getElem_cons_succ, List.setIfInBounds_toArray, List.set_cons_zero, List.set_cons_succ]
      refine tkY 7 (v := ?v17) rfl (.inl ⟨by rfl, ?hy17⟩) ?hr17
      case hy17 => (intro w hSw; (try dsimp only at hSw); go_simp; try with_reducible rfl)
      simp only [Act.put, List.getElem_toArray, List.getElem_cons_zero, List.getElem_cons_succ, List.setIfInBounds_toArray, List.set_cons_zero, List.set_cons_succ]
      refine tkY 8 (v := ?v18) rfl (.inl ⟨by rfl, ?hy18⟩) ?hr18
      case hy18 => (intro w hSw; (try dsimp only at hSw); go_simp; try with_reducible rfl)
      simp only [Act.put, List.getElem_toArray, List.getElem_cons_zero, List.getElem_cons_succ, List.setIfInBounds_toArray, List.set_cons_zero, List.set_cons_succ]
      refine tkY 9 (v := ?v19) rfl (.inl ⟨by rfl, ?hy19⟩) ?hr19
      case hy19 => (intro w hSw; (try dsimp only at hSw); go_simp; try with_reducible rfl)
      simp only [Act.put, List.getElem_toArray, List.getElem_cons_zero, List.getElem_cons_succ, List.setIfInBounds_toArray, List.set_cons_zero, List.set_cons_succ]
      refine tkY 10 (v := ?v20) rfl (.inl ⟨by rfl, ?hy20⟩) ?hr20
      case hy20 => (intro w hSw; (try dsimp only at hSw); go_simp; try with_reducible rfl)
      simp only [Act.put, List.getElem_toArray, List.getElem_cons_zero, List.getElem_cons_succ, List.setIfInBounds_toArray, List.set_cons_zero, List.set_cons_succ]
      refine wpAnyH_ready (rs := [11]) (by kernel_rfl) (by simp) ?_
      refine AllReadyH.cons rfl (fun K hK => ?_) AllReadyH.nil
      go_simp
      go_at_call 40
      refine (refCompare_any x.name y.name _ (by omega) (by omega)).mono ?_
      rintro e r1 ⟨rfl, hbq⟩
      dsimp only
      refine hK.out _ _ ?_ (fun hHeld => ?_)
      · (try dsimp only)
        exact keepS.out _ _ hHeld hbq
      clear hK K
      try simp only [Act.put, List.getElem_toArray, List.getElem_cons_zero, List.getElem_cons_succ, List.setIfInBounds_toArray, List.set_cons_zero, List.set_cons_succ]
      refine tkY 12 (v := ?v21) rfl (.inl ⟨by rfl, ?hy21⟩) ?hr21
      case hy21 => (intro w hSw; (try dsimp only at hSw); go_simp; try with_reducible rfl)
      simp only [Act.put, List.getElem_toArray, List.getElem_cons_zero, List.getElem_cons_succ, List.setIfInBounds_toArray, List.set_cons_zero, List.set_cons_succ]
      refine wpAnyH_done (by kernel_rfl) ?_ _
      have hbW := hHeld.1
      clear hHeld hS1 keepS
      by_cases hc : cmpN x.nm y.nm < 0
      · rw [decide_eq_true hc, Bool.true_and] at hp
        have hc' : ¬ (0 : Int) ≤ cmpN x.name.data.toList y.name.data.toList := by have := hc; unfold Sec.nm at this; omega
        generalize cmpN x.name.data.toList y.name.data.toList = q at *
        clear hc
        replace hp := Lib.hid hp
        repeat' ((fail_if_success at_builtin); (first | go_skip | go_guarded | go_step))
        go_roundw
        case rel => exact ⟨i + 1, by omega, by first | rfl | go_num, hbW, hp.out⟩
        case measure => (try go_num); (try simp [intOf]); (try omega)
      · rw [decide_eq_false hc, Bool.false_and] at hp
        have hc' : (0 : Int) ≤ cmpN x.name.data.toList y.name.data.toList := by have := hc; unfold Sec.nm at this; omega
        generalize cmpN x.name.data.toList y.name.data.toList = q at *
        clear hc
        replace hp := Lib.hid hp
        repeat' ((fail_if_success at_builtin); (first | go_skip | go_guarded | go_step))
        go_ret
        exact ⟨by rw [hp.out]; rfl, hbW⟩
    · have i1 : ¬ (i : Int) + 1 < (l.length : Int) := by omega
      rw [ascB_end (by omega)] at hp
      replace hp := Lib.hid hp
      repeat' ((fail_if_success at_builtin); (first | go_skip | go_guarded | go_step))
      go_ret
      exact ⟨by rw [hp.out]; rfl, hb⟩
end Go.Proofs.YtgloblokkejgmaaDoor
