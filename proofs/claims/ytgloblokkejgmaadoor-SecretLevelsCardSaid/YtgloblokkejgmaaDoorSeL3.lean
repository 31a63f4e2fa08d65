/- Secret: the law about the order of two Puts. -/
import Derived.Test.YtgloblokkejgmaaDoorSeL2
namespace Go.Proofs.YtgloblokkejgmaaDoor
open Go.RowKit
theorem secsB_two {w : World} {g : Nat} {x y : Sec} {A1 : Option Addr} {c1 : Nat} {A2 : Option Addr} {c2 : Nat} {D1 : Option Addr} {e1 : Nat} {D2 : Option Addr} {e2 : Nat} (h : CellsAt w g [.string x.name, .string x.text, .int .i64 x.level, .slice A1 x.refs.length c1, .slice A2 x.envs.length c2, .string y.name, .string y.text, .int .i64 y.level, .slice D1 y.refs.length e1, .slice D2 y.envs.length e2]) (h1 : StrsR w (fun b => b < w.heap.size) A1 c1 x.refs) (h2 : StrsR w (fun b => b < w.heap.size) A2 c2 x.envs) (k1 : StrsR w (fun b => b < w.heap.size) D1 e1 y.refs) (k2 : StrsR w (fun b => b < w.heap.size) D2 e2 y.envs) (hx : SecB x) (hy : SecB y) : SecsB w (some ⟨g, 0, none⟩) 2 2 [x, y] :=
  ⟨secs_cells h ⟨[.string x.name, .string x.text, .int .i64 x.level, .slice A1 x.refs.length c1, .slice A2 x.envs.length c2], [.string y.name, .string y.text, .int .i64 y.level, .slice D1 y.refs.length e1, .slice D2 y.envs.length e2], rfl, rfl, sec_rd h1 h2, RList.one (sec_rd k1 k2) rfl⟩, by simp, fun z hz => by
    rcases List.mem_cons.1 hz with rfl | hz
    · exact hx
    · rw [List.mem_singleton.1 hz]; exact hy⟩
theorem putR_ok {l : List Sec} {x : Sec} (h : l.length < 64) : putR 0 l x = putL l x := by unfold putR; rw [putE_ok h, if_neg (by simp)]
set_option maxRecDepth 100000 in
set_option maxHeartbeats 6000000 in
theorem order_law (l : List Sec) (A : Option Addr) (n c : Nat) (x : Sec) (A1 : Option Addr) (c1 : Nat) (A2 : Option Addr) (c2 : Nat) (y : Sec) (D1 : Option Addr) (e1 : Nat) (D2 : Option Addr) (e2 : Nat) (w : World) (h : SecsB w A n c l) (h1 : StrsR w (fun b => b < w.heap.size) A1 c1 x.refs) (h2 : StrsR w (fun b => b < w.heap.size) A2 c2 x.envs) (hx : SecB x) (k1 : StrsR w (fun b => b < w.heap.size) D1 e1 y.refs) (k2 : StrsR w (fun b => b < w.heap.size) D2 e2 y.envs) (hy : SecB y) :
    Calls Tryd.prog 5 #[.slice A n c, .agg #[.string x.name, .string x.text, .int .i64 x.level, .slice A1 x.refs.length c1, .slice A2 x.envs.length c2], .agg #[.string y.name, .string y.text, .int .i64 y.level, .slice D1 y.refs.length e1, .slice D2 y.envs.length e2]] w fun e w' => e = .returned (.bool true) ∧ Below w.heap.size w w' := by
  have hn := h.rd.1
  have hl := h.len
  subst hn
  go_enter Tryd.func5, Tryd.ntmps5
  go_upto_region 1 with (fail)
  generalize hx_ : World.alloc (World.alloc w _) _ = wo1
  have hO1 : OwnB w wo1 [(w.heap.size + 1, [.string y.name, .string y.text, .int .i64 y.level, .slice D1 y.refs.length e1, .slice D2 y.envs.length e2]), (w.heap.size, [.string x.name, .string x.text, .int .i64 x.level, .slice A1 x.refs.length c1, .slice A2 x.envs.length c2])] := by rw [← hx_]; exact ((OwnB.refl w).new #[.string x.name, .string x.text, .int .i64 x.level, .slice A1 x.refs.length c1, .slice A2 x.envs.length c2] _ (g := w.heap.size)).new #[.string y.name, .string y.text, .int .i64 y.level, .slice D1 y.refs.length e1, .slice D2 y.envs.length e2] _ (g := w.heap.size + 1)
  have hbn : Below w.heap.size w wo1 := by rw [← hx_]; exact ((Below.refl _ _).alloc (Nat.le_refl _) _).alloc (by simp) _
  have zwo1 : w.heap.size + 1 < wo1.heap.size := by rw [← hx_]; simp <;> omega
  clear hx_
  have c0_0 : wo1.cell? ⟨w.heap.size + 1, 0, none⟩ = some (.string y.name) := hO1.c 0 0
  have c0_1 : wo1.cell? ⟨w.heap.size + 1, 1, none⟩ = some (.string y.text) := hO1.c 0 1
  have c0_2 : wo1.cell? ⟨w.heap.size + 1, 2, none⟩ = some (.int .i64 y.level) := hO1.c 0 2
  have c0_3 : wo1.cell? ⟨w.heap.size + 1, 3, none⟩ = some (.slice D1 y.refs.length e1) := hO1.c 0 3
  have c0_4 : wo1.cell? ⟨w.heap.size + 1, 4, none⟩ = some (.slice D2 y.envs.length e2) := hO1.c 0 4
  have cf0 := hO1.fr 0
  have c1_0 : wo1.cell? ⟨w.heap.size, 0, none⟩ = some (.string x.name) := hO1.c 1 0
  have c1_1 : wo1.cell? ⟨w.heap.size, 1, none⟩ = some (.string x.text) := hO1.c 1 1
  have c1_2 : wo1.cell? ⟨w.heap.size, 2, none⟩ = some (.int .i64 x.level) := hO1.c 1 2
  have c1_3 : wo1.cell? ⟨w.heap.size, 3, none⟩ = some (.slice A1 x.refs.length c1) := hO1.c 1 3
  have c1_4 : wo1.cell? ⟨w.heap.size, 4, none⟩ = some (.slice A2 x.envs.length c2) := hO1.c 1 4
  have cf1 := hO1.fr 1
  clear hbn
  have hbw := hO1.below
  by_cases h60 : 60 < l.length
  · have h60' : (60 : Int) < (l.length : Int) := by omega
    repeat' ((fail_if_success at_builtin); (first | go_skip | go_guarded | go_step))
    refine (lives_any _).mono ?_
    rintro e wl ⟨rfl, hbl⟩
    dsimp only
    have hbf := hbw.trans (hbl.mono hbw.size)
    repeat' ((fail_if_success at_builtin); (first | go_skip | go_guarded | go_step))
    go_ret
    exact ⟨rfl, hbf⟩
  have h60' : ¬ (60 : Int) < (l.length : Int) := by omega
  have C := small_any l A l.length c wo1 (h.below hbw)
  replace C := Lib.hid C
  repeat' ((fail_if_success at_builtin); (first | go_skip | go_guarded | go_step))
  refine C.out.mono ?_
  clear C
  rintro e w1 ⟨rfl, hw1⟩
  dsimp only
  rw [hw1]
  clear hw1 w1
  cases hs : smallL l with
  | false =>
    repeat' ((fail_if_success at_builtin); (first | go_skip | go_guarded | go_step))
    refine (lives_any _).mono ?_
    rintro e wl ⟨rfl, hbl⟩
    dsimp only
    have hbf := hbw.trans (hbl.mono hbw.size)
    repeat' ((fail_if_success at_builtin); (first | go_skip | go_guarded | go_step))
    go_ret
    exact ⟨rfl, hbf⟩
  | true =>
    have hbv := (Below.refl wo1.heap.size wo1).alloc (Nat.le_refl _) (.cells #[.string x.name, .string x.text, .int .i64 x.level, .slice A1 x.refs.length c1, .slice A2 x.envs.length c2, .string y.name, .string y.text, .int .i64 y.level, .slice D1 y.refs.length e1, .slice D2 y.envs.length e2] secT)
    have hbw0 := hbw.trans (hbv.mono hbw.size)
    have C := small_any [x, y] (some ⟨wo1.heap.size, 0, none⟩) 2 2 (wo1.alloc (.cells #[.string x.name, .string x.text, .int .i64 x.level, .slice A1 x.refs.length c1, .slice A2 x.envs.length c2, .string y.name, .string y.text, .int .i64 y.level, .slice D1 y.refs.length e1, .slice D2 y.envs.length e2] secT)) (secsB_two (CellsAt.new wo1 #[.string x.name, .string x.text, .int .i64 x.level, .slice A1 x.refs.length c1, .slice A2 x.envs.length c2, .string y.name, .string y.text, .int .i64 y.level, .slice D1 y.refs.length e1, .slice D2 y.envs.length e2] secT) (h1.upB hbw0) (h2.upB hbw0) (k1.upB hbw0) (k2.upB hbw0) hx hy)
    replace C := Lib.hid C
    repeat' ((fail_if_success at_builtin); (first | go_skip | go_guarded | go_step))
    refine C.out.mono ?_
    clear C
    rintro e w1 ⟨rfl, hw1⟩
    dsimp only
    have hb1 : Below wo1.heap.size wo1 w1 := by rw [hw1]; exact hbv
    clear hbv hbw0 hw1 hbw
    have zw1 := hb1.size
    have hO2 : OwnB w w1 [(w.heap.size + 1, [.string y.name, .string y.text, .int .i64 y.level, .slice D1 y.refs.length e1, .slice D2 y.envs.length e2]), (w.heap.size, [.string x.name, .string x.text, .int .i64 x.level, .slice A1 x.refs.length c1, .slice A2 x.envs.length c2])] := hO1.kept hb1
    clear c0_0 c0_1 c0_2 c0_3 c0_4 cf0 c1_0 c1_1 c1_2 c1_3 c1_4 cf1 hO1
    have c0_0 : w1.cell? ⟨w.heap.size + 1, 0, none⟩ = some (.string y.name) := hO2.c 0 0
    have c0_1 : w1.cell? ⟨w.heap.size + 1, 1, none⟩ = some (.string y.text) := hO2.c 0 1
    have c0_2 : w1.cell? ⟨w.heap.size + 1, 2, none⟩ = some (.int .i64 y.level) := hO2.c 0 2
    have c0_3 : w1.cell? ⟨w.heap.size + 1, 3, none⟩ = some (.slice D1 y.refs.length e1) := hO2.c 0 3
    have c0_4 : w1.cell? ⟨w.heap.size + 1, 4, none⟩ = some (.slice D2 y.envs.length e2) := hO2.c 0 4
    have cf0 := hO2.fr 0
    have c1_0 : w1.cell? ⟨w.heap.size, 0, none⟩ = some (.string x.name) := hO2.c 1 0
    have c1_1 : w1.cell? ⟨w.heap.size, 1, none⟩ = some (.string x.text) := hO2.c 1 1
    have c1_2 : w1.cell? ⟨w.heap.size, 2, none⟩ = some (.int .i64 x.level) := hO2.c 1 2
    have c1_3 : w1.cell? ⟨w.heap.size, 3, none⟩ = some (.slice A1 x.refs.length c1) := hO2.c 1 3
    have c1_4 : w1.cell? ⟨w.heap.size, 4, none⟩ = some (.slice A2 x.envs.length c2) := hO2.c 1 4
    have cf1 := hO2.fr 1
    have hbw := hO2.below
    cases hs2 : smallL [x, y] with
    | false =>
      repeat' ((fail_if_success at_builtin); (first | go_skip | go_guarded | go_step))
      refine (lives_any _).mono ?_
      rintro e wl ⟨rfl, hbl⟩
      dsimp only
      have hbf := hbw.trans (hbl.mono hbw.size)
      repeat' ((fail_if_success at_builtin); (first | go_skip | go_guarded | go_step))
      go_ret
      exact ⟨rfl, hbf⟩
    | true =>
      have hw := (smallL_out hs2).2 x (by simp)
      have hv := (smallL_out hs2).2 y (by simp)
      have hea := (smallL_out hs).2
      have hS := (h.below hbw).secs hs
      clear hs2
      have C := refAscS_any l A l.length c w1 hS
      replace C := Lib.hid C
      repeat' ((fail_if_success at_builtin); (first | go_skip | go_guarded | go_step))
      refine C.out.mono ?_
      clear C
      rintro e w2 ⟨rfl, hb2⟩
      dsimp only
      have hS2 := hS.below hb2
      clear hS hbw
      have zw2 := hb2.size
      have hO3 : OwnB w w2 [(w.heap.size + 1, [.string y.name, .string y.text, .int .i64 y.level, .slice D1 y.refs.length e1, .slice D2 y.envs.length e2]), (w.heap.size, [.string x.name, .string x.text, .int .i64 x.level, .slice A1 x.refs.length c1, .slice A2 x.envs.length c2])] := hO2.kept hb2
      clear c0_0 c0_1 c0_2 c0_3 c0_4 cf0 c1_0 c1_1 c1_2 c1_3 c1_4 cf1 hO2
      have c0_0 : w2.cell? ⟨w.heap.size + 1, 0, none⟩ = some (.string y.name) := hO3.c 0 0
      have c0_1 : w2.cell? ⟨w.heap.size + 1, 1, none⟩ = some (.string y.text) := hO3.c 0 1
      have c0_2 : w2.cell? ⟨w.heap.size + 1, 2, none⟩ = some (.int .i64 y.level) := hO3.c 0 2
      have c0_3 : w2.cell? ⟨w.heap.size + 1, 3, none⟩ = some (.slice D1 y.refs.length e1) := hO3.c 0 3
      have c0_4 : w2.cell? ⟨w.heap.size + 1, 4, none⟩ = some (.slice D2 y.envs.length e2) := hO3.c 0 4
      have cf0 := hO3.fr 0
      have c1_0 : w2.cell? ⟨w.heap.size, 0, none⟩ = some (.string x.name) := hO3.c 1 0
      have c1_1 : w2.cell? ⟨w.heap.size, 1, none⟩ = some (.string x.text) := hO3.c 1 1
      have c1_2 : w2.cell? ⟨w.heap.size, 2, none⟩ = some (.int .i64 x.level) := hO3.c 1 2
      have c1_3 : w2.cell? ⟨w.heap.size, 3, none⟩ = some (.slice A1 x.refs.length c1) := hO3.c 1 3
      have c1_4 : w2.cell? ⟨w.heap.size, 4, none⟩ = some (.slice A2 x.envs.length c2) := hO3.c 1 4
      have cf1 := hO3.fr 1
      have hbw := hO3.below
      cases hal : ascB l with
      | false =>
        repeat' ((fail_if_success at_builtin); (first | go_skip | go_guarded | go_step))
        refine (lives_any _).mono ?_
        rintro e wl ⟨rfl, hbl⟩
        dsimp only
        have hbf := hbw.trans (hbl.mono hbw.size)
        repeat' ((fail_if_success at_builtin); (first | go_skip | go_guarded | go_step))
        go_ret
        exact ⟨rfl, hbf⟩
      | true =>
        by_cases hne : x.nm = y.nm
        · have hq : (x.name.toList == y.name.toList) = true := by rw [ByteArray.toList_eq, ByteArray.toList_eq]; simpa using hne
          repeat' ((fail_if_success at_builtin); (first | go_skip | go_guarded | go_step))
          refine (lives_any _).mono ?_
          rintro e wl ⟨rfl, hbl⟩
          dsimp only
          have hbf := hbw.trans (hbl.mono hbw.size)
          repeat' ((fail_if_success at_builtin); (first | go_skip | go_guarded | go_step))
          go_ret
          exact ⟨rfl, hbf⟩
        have hq : (x.name.toList == y.name.toList) = false := by rw [ByteArray.toList_eq, ByteArray.toList_eq]; simpa using hne
        have C := valid_any x A1 c1 A2 c2 w2 (h1.upB hbw) (h2.upB hbw) hw
        replace C := Lib.hid C
        repeat' ((fail_if_success at_builtin); (first | go_skip | go_guarded | go_step))
        refine C.out.mono ?_
        clear C
        rintro e w3 ⟨rfl, hb3⟩
        dsimp only
        have hS3 := hS2.below hb3
        clear hS2 hbw
        have zw3 := hb3.size
        have hO4 : OwnB w w3 [(w.heap.size + 1, [.string y.name, .string y.text, .int .i64 y.level, .slice D1 y.refs.length e1, .slice D2 y.envs.length e2]), (w.heap.size, [.string x.name, .string x.text, .int .i64 x.level, .slice A1 x.refs.length c1, .slice A2 x.envs.length c2])] := hO3.kept hb3
        clear c0_0 c0_1 c0_2 c0_3 c0_4 cf0 c1_0 c1_1 c1_2 c1_3 c1_4 cf1 hO3
        have c0_0 : w3.cell? ⟨w.heap.size + 1, 0, none⟩ = some (.string y.name) := hO4.c 0 0
        have c0_1 : w3.cell? ⟨w.heap.size + 1, 1, none⟩ = some (.string y.text) := hO4.c 0 1
        have c0_2 : w3.cell? ⟨w.heap.size + 1, 2, none⟩ = some (.int .i64 y.level) := hO4.c 0 2
        have c0_3 : w3.cell? ⟨w.heap.size + 1, 3, none⟩ = some (.slice D1 y.refs.length e1) := hO4.c 0 3
        have c0_4 : w3.cell? ⟨w.heap.size + 1, 4, none⟩ = some (.slice D2 y.envs.length e2) := hO4.c 0 4
        have cf0 := hO4.fr 0
        have c1_0 : w3.cell? ⟨w.heap.size, 0, none⟩ = some (.string x.name) := hO4.c 1 0
        have c1_1 : w3.cell? ⟨w.heap.size, 1, none⟩ = some (.string x.text) := hO4.c 1 1
        have c1_2 : w3.cell? ⟨w.heap.size, 2, none⟩ = some (.int .i64 x.level) := hO4.c 1 2
        have c1_3 : w3.cell? ⟨w.heap.size, 3, none⟩ = some (.slice A1 x.refs.length c1) := hO4.c 1 3
        have c1_4 : w3.cell? ⟨w.heap.size, 4, none⟩ = some (.slice A2 x.envs.length c2) := hO4.c 1 4
        have cf1 := hO4.fr 1
        have hbw := hO4.below
        by_cases hvx : vE x = 0
        · rw [hvx]
          have C := valid_any y D1 e1 D2 e2 w3 (k1.upB hbw) (k2.upB hbw) hv
          replace C := Lib.hid C
          repeat' ((fail_if_success at_builtin); (first | go_skip | go_guarded | go_step))
          refine C.out.mono ?_
          clear C
          rintro e w4 ⟨rfl, hb4⟩
          dsimp only
          have hS4 := hS3.below hb4
          clear hS3 hbw
          have zw4 := hb4.size
          have hO5 : OwnB w w4 [(w.heap.size + 1, [.string y.name, .string y.text, .int .i64 y.level, .slice D1 y.refs.length e1, .slice D2 y.envs.length e2]), (w.heap.size, [.string x.name, .string x.text, .int .i64 x.level, .slice A1 x.refs.length c1, .slice A2 x.envs.length c2])] := hO4.kept hb4
          clear c0_0 c0_1 c0_2 c0_3 c0_4 cf0 c1_0 c1_1 c1_2 c1_3 c1_4 cf1 hO4
          have c0_0 : w4.cell? ⟨w.heap.size + 1, 0, none⟩ = some (.string y.name) := hO5.c 0 0
          have c0_1 : w4.cell? ⟨w.heap.size + 1, 1, none⟩ = some (.string y.text) := hO5.c 0 1
          have c0_2 : w4.cell? ⟨w.heap.size + 1, 2, none⟩ = some (.int .i64 y.level) := hO5.c 0 2
          have c0_3 : w4.cell? ⟨w.heap.size + 1, 3, none⟩ = some (.slice D1 y.refs.length e1) := hO5.c 0 3
          have c0_4 : w4.cell? ⟨w.heap.size + 1, 4, none⟩ = some (.slice D2 y.envs.length e2) := hO5.c 0 4
          have cf0 := hO5.fr 0
          have c1_0 : w4.cell? ⟨w.heap.size, 0, none⟩ = some (.string x.name) := hO5.c 1 0
          have c1_1 : w4.cell? ⟨w.heap.size, 1, none⟩ = some (.string x.text) := hO5.c 1 1
          have c1_2 : w4.cell? ⟨w.heap.size, 2, none⟩ = some (.int .i64 x.level) := hO5.c 1 2
          have c1_3 : w4.cell? ⟨w.heap.size, 3, none⟩ = some (.slice A1 x.refs.length c1) := hO5.c 1 3
          have c1_4 : w4.cell? ⟨w.heap.size, 4, none⟩ = some (.slice A2 x.envs.length c2) := hO5.c 1 4
          have cf1 := hO5.fr 1
          have hbw := hO5.below
          by_cases hvy : vE y = 0
          · rw [hvy]
            have hasc := ascB_iff.1 hal
            obtain ⟨T1, T2, T3⟩ := put_twice hasc (by omega) hne
            have C := put_any l A l.length c x A1 c1 A2 c2 w4 hS4 (h1.upB hbw) (h2.upB hbw) hw
            unfold RetPut at C
            rw [hvx, putE_ok (by omega)] at C
            replace C := Lib.hid C
            repeat' ((fail_if_success at_builtin); (first | go_skip | go_guarded | go_step))
            refine C.out.mono ?_
            clear C
            rintro e w5 ⟨PA, pn, pc, rfl, hp, hb5⟩
            dsimp only
            have hP := put_secs hp (by omega) hea hw
            have hS5 := hS4.below hb5
            clear hp hS4 hbw
            have zw5 := hb5.size
            have hO6 : OwnB w w5 [(w.heap.size + 1, [.string y.name, .string y.text, .int .i64 y.level, .slice D1 y.refs.length e1, .slice D2 y.envs.length e2]), (w.heap.size, [.string x.name, .string x.text, .int .i64 x.level, .slice A1 x.refs.length c1, .slice A2 x.envs.length c2])] := hO5.kept hb5
            clear c0_0 c0_1 c0_2 c0_3 c0_4 cf0 c1_0 c1_1 c1_2 c1_3 c1_4 cf1 hO5
            have c0_0 : w5.cell? ⟨w.heap.size + 1, 0, none⟩ = some (.string y.name) := hO6.c 0 0
            have c0_1 : w5.cell? ⟨w.heap.size + 1, 1, none⟩ = some (.string y.text) := hO6.c 0 1
            have c0_2 : w5.cell? ⟨w.heap.size + 1, 2, none⟩ = some (.int .i64 y.level) := hO6.c 0 2
            have c0_3 : w5.cell? ⟨w.heap.size + 1, 3, none⟩ = some (.slice D1 y.refs.length e1) := hO6.c 0 3
            have c0_4 : w5.cell? ⟨w.heap.size + 1, 4, none⟩ = some (.slice D2 y.envs.length e2) := hO6.c 0 4
            have cf0 := hO6.fr 0
            have c1_0 : w5.cell? ⟨w.heap.size, 0, none⟩ = some (.string x.name) := hO6.c 1 0
            have c1_1 : w5.cell? ⟨w.heap.size, 1, none⟩ = some (.string x.text) := hO6.c 1 1
            have c1_2 : w5.cell? ⟨w.heap.size, 2, none⟩ = some (.int .i64 x.level) := hO6.c 1 2
            have c1_3 : w5.cell? ⟨w.heap.size, 3, none⟩ = some (.slice A1 x.refs.length c1) := hO6.c 1 3
            have c1_4 : w5.cell? ⟨w.heap.size, 4, none⟩ = some (.slice A2 x.envs.length c2) := hO6.c 1 4
            have cf1 := hO6.fr 1
            have hbw := hO6.below
            have C := put_any (putR 0 l x) PA pn pc y D1 e1 D2 e2 w5 hP (k1.upB hbw) (k2.upB hbw) hv
            unfold RetPut at C
            rw [hvy, T1] at C
            replace C := Lib.hid C
            repeat' ((fail_if_success at_builtin); (first | go_skip | go_guarded | go_step))
            refine C.out.mono ?_
            clear C
            rintro e w6 ⟨PA2, pn2, pc2, rfl, hp2, hb6⟩
            dsimp only
            have hP2 := put_secs hp2 (by have := putR_size (v := 0) (l := l) (x := x) (m := 60) (by omega); omega) hP.each hv
            have hS6 := hS5.below hb6
            clear hp2 hP hS5 hbw
            have zw6 := hb6.size
            have hO7 : OwnB w w6 [(w.heap.size + 1, [.string y.name, .string y.text, .int .i64 y.level, .slice D1 y.refs.length e1, .slice D2 y.envs.length e2]), (w.heap.size, [.string x.name, .string x.text, .int .i64 x.level, .slice A1 x.refs.length c1, .slice A2 x.envs.length c2])] := hO6.kept hb6
            clear c0_0 c0_1 c0_2 c0_3 c0_4 cf0 c1_0 c1_1 c1_2 c1_3 c1_4 cf1 hO6
            have c0_0 : w6.cell? ⟨w.heap.size + 1, 0, none⟩ = some (.string y.name) := hO7.c 0 0
            have c0_1 : w6.cell? ⟨w.heap.size + 1, 1, none⟩ = some (.string y.text) := hO7.c 0 1
            have c0_2 : w6.cell? ⟨w.heap.size + 1, 2, none⟩ = some (.int .i64 y.level) := hO7.c 0 2
            have c0_3 : w6.cell? ⟨w.heap.size + 1, 3, none⟩ = some (.slice D1 y.refs.length e1) := hO7.c 0 3
            have c0_4 : w6.cell? ⟨w.heap.size + 1, 4, none⟩ = some (.slice D2 y.envs.length e2) := hO7.c 0 4
            have cf0 := hO7.fr 0
            have c1_0 : w6.cell? ⟨w.heap.size, 0, none⟩ = some (.string x.name) := hO7.c 1 0
            have c1_1 : w6.cell? ⟨w.heap.size, 1, none⟩ = some (.string x.text) := hO7.c 1 1
            have c1_2 : w6.cell? ⟨w.heap.size, 2, none⟩ = some (.int .i64 x.level) := hO7.c 1 2
            have c1_3 : w6.cell? ⟨w.heap.size, 3, none⟩ = some (.slice A1 x.refs.length c1) := hO7.c 1 3
            have c1_4 : w6.cell? ⟨w.heap.size, 4, none⟩ = some (.slice A2 x.envs.length c2) := hO7.c 1 4
            have cf1 := hO7.fr 1
            have hbw := hO7.below
            have C := put_any l A l.length c y D1 e1 D2 e2 w6 hS6 (k1.upB hbw) (k2.upB hbw) hv
            unfold RetPut at C
            rw [hvy, putE_ok (by omega)] at C
            replace C := Lib.hid C
            repeat' ((fail_if_success at_builtin); (first | go_skip | go_guarded | go_step))
            refine C.out.mono ?_
            clear C
            rintro e w7 ⟨QA, qn, qc, rfl, hq1, hb7⟩
            dsimp only
            have hQ := put_secs hq1 (by omega) hea hv
            have hP7 := hP2.below hb7
            clear hq1 hS6 hP2 hbw
            have zw7 := hb7.size
            have hO8 : OwnB w w7 [(w.heap.size + 1, [.string y.name, .string y.text, .int .i64 y.level, .slice D1 y.refs.length e1, .slice D2 y.envs.length e2]), (w.heap.size, [.string x.name, .string x.text, .int .i64 x.level, .slice A1 x.refs.length c1, .slice A2 x.envs.length c2])] := hO7.kept hb7
            clear c0_0 c0_1 c0_2 c0_3 c0_4 cf0 c1_0 c1_1 c1_2 c1_3 c1_4 cf1 hO7
            have c0_0 : w7.cell? ⟨w.heap.size + 1, 0, none⟩ = some (.string y.name) := hO8.c 0 0
            have c0_1 : w7.cell? ⟨w.heap.size + 1, 1, none⟩ = some (.string y.text) := hO8.c 0 1
            have c0_2 : w7.cell? ⟨w.heap.size + 1, 2, none⟩ = some (.int .i64 y.level) := hO8.c 0 2
            have c0_3 : w7.cell? ⟨w.heap.size + 1, 3, none⟩ = some (.slice D1 y.refs.length e1) := hO8.c 0 3
            have c0_4 : w7.cell? ⟨w.heap.size + 1, 4, none⟩ = some (.slice D2 y.envs.length e2) := hO8.c 0 4
            have cf0 := hO8.fr 0
            have c1_0 : w7.cell? ⟨w.heap.size, 0, none⟩ = some (.string x.name) := hO8.c 1 0
            have c1_1 : w7.cell? ⟨w.heap.size, 1, none⟩ = some (.string x.text) := hO8.c 1 1
            have c1_2 : w7.cell? ⟨w.heap.size, 2, none⟩ = some (.int .i64 x.level) := hO8.c 1 2
            have c1_3 : w7.cell? ⟨w.heap.size, 3, none⟩ = some (.slice A1 x.refs.length c1) := hO8.c 1 3
            have c1_4 : w7.cell? ⟨w.heap.size, 4, none⟩ = some (.slice A2 x.envs.length c2) := hO8.c 1 4
            have cf1 := hO8.fr 1
            have hbw := hO8.below
            have C := put_any (putR 0 l y) QA qn qc x A1 c1 A2 c2 w7 hQ (h1.upB hbw) (h2.upB hbw) hw
            unfold RetPut at C
            rw [hvx, T2, ← T3] at C
            replace C := Lib.hid C
            repeat' ((fail_if_success at_builtin); (first | go_skip | go_guarded | go_step))
            refine C.out.mono ?_
            clear C
            rintro e w8 ⟨QA2, qn2, qc2, rfl, hq2, hb8⟩
            dsimp only
            have hP8 := hP7.below hb8
            have hQ8 : Secs w8 QA2 qn2 qc2 (putR 0 (putR 0 l x) y) := ⟨hq2, hP8.len, hP8.each⟩
            obtain rfl : qn2 = pn2 := hQ8.n.symm.trans hP8.n
            clear hq2 hQ hP7 hbw
            have zw8 := hb8.size
            have hO9 : OwnB w w8 [(w.heap.size + 1, [.string y.name, .string y.text, .int .i64 y.level, .slice D1 y.refs.length e1, .slice D2 y.envs.length e2]), (w.heap.size, [.string x.name, .string x.text, .int .i64 x.level, .slice A1 x.refs.length c1, .slice A2 x.envs.length c2])] := hO8.kept hb8
            clear c0_0 c0_1 c0_2 c0_3 c0_4 cf0 c1_0 c1_1 c1_2 c1_3 c1_4 cf1 hO8
            have c0_0 : w8.cell? ⟨w.heap.size + 1, 0, none⟩ = some (.string y.name) := hO9.c 0 0
            have c0_1 : w8.cell? ⟨w.heap.size + 1, 1, none⟩ = some (.string y.text) := hO9.c 0 1
            have c0_2 : w8.cell? ⟨w.heap.size + 1, 2, none⟩ = some (.int .i64 y.level) := hO9.c 0 2
            have c0_3 : w8.cell? ⟨w.heap.size + 1, 3, none⟩ = some (.slice D1 y.refs.length e1) := hO9.c 0 3
            have c0_4 : w8.cell? ⟨w.heap.size + 1, 4, none⟩ = some (.slice D2 y.envs.length e2) := hO9.c 0 4
            have cf0 := hO9.fr 0
            have c1_0 : w8.cell? ⟨w.heap.size, 0, none⟩ = some (.string x.name) := hO9.c 1 0
            have c1_1 : w8.cell? ⟨w.heap.size, 1, none⟩ = some (.string x.text) := hO9.c 1 1
            have c1_2 : w8.cell? ⟨w.heap.size, 2, none⟩ = some (.int .i64 x.level) := hO9.c 1 2
            have c1_3 : w8.cell? ⟨w.heap.size, 3, none⟩ = some (.slice A1 x.refs.length c1) := hO9.c 1 3
            have c1_4 : w8.cell? ⟨w.heap.size, 4, none⟩ = some (.slice A2 x.envs.length c2) := hO9.c 1 4
            have cf1 := hO9.fr 1
            have hbw := hO9.below
            have C := refSameS_any (putR 0 (putR 0 l x) y) PA2 qn2 pc2 QA2 qc2 w8 hP8 hQ8
            replace C := Lib.hid C
            repeat' ((fail_if_success at_builtin); (first | go_skip | go_guarded | go_step))
            refine C.out.mono ?_
            clear C
            rintro e w9 ⟨rfl, hb9⟩
            dsimp only
            clear hbw
            have zw9 := hb9.size
            have hO10 : OwnB w w9 [(w.heap.size + 1, [.string y.name, .string y.text, .int .i64 y.level, .slice D1 y.refs.length e1, .slice D2 y.envs.length e2]), (w.heap.size, [.string x.name, .string x.text, .int .i64 x.level, .slice A1 x.refs.length c1, .slice A2 x.envs.length c2])] := hO9.kept hb9
            clear c0_0 c0_1 c0_2 c0_3 c0_4 cf0 c1_0 c1_1 c1_2 c1_3 c1_4 cf1 hO9
            have c0_0 : w9.cell? ⟨w.heap.size + 1, 0, none⟩ = some (.string y.name) := hO10.c 0 0
            have c0_1 : w9.cell? ⟨w.heap.size + 1, 1, none⟩ = some (.string y.text) := hO10.c 0 1
            have c0_2 : w9.cell? ⟨w.heap.size + 1, 2, none⟩ = some (.int .i64 y.level) := hO10.c 0 2
            have c0_3 : w9.cell? ⟨w.heap.size + 1, 3, none⟩ = some (.slice D1 y.refs.length e1) := hO10.c 0 3
            have c0_4 : w9.cell? ⟨w.heap.size + 1, 4, none⟩ = some (.slice D2 y.envs.length e2) := hO10.c 0 4
            have cf0 := hO10.fr 0
            have c1_0 : w9.cell? ⟨w.heap.size, 0, none⟩ = some (.string x.name) := hO10.c 1 0
            have c1_1 : w9.cell? ⟨w.heap.size, 1, none⟩ = some (.string x.text) := hO10.c 1 1
            have c1_2 : w9.cell? ⟨w.heap.size, 2, none⟩ = some (.int .i64 x.level) := hO10.c 1 2
            have c1_3 : w9.cell? ⟨w.heap.size, 3, none⟩ = some (.slice A1 x.refs.length c1) := hO10.c 1 3
            have c1_4 : w9.cell? ⟨w.heap.size, 4, none⟩ = some (.slice A2 x.envs.length c2) := hO10.c 1 4
            have cf1 := hO10.fr 1
            have hbw := hO10.below
            repeat' ((fail_if_success at_builtin); (first | go_skip | go_guarded | go_step))
            refine (lives_any _).mono ?_
            rintro e wl ⟨rfl, hbl⟩
            dsimp only
            have hbf := hbw.trans (hbl.mono hbw.size)
            repeat' ((fail_if_success at_builtin); (first | go_skip | go_guarded | go_step))
            go_ret
            exact ⟨rfl, hbf⟩
          · have hvy' : (vE y != 0) = true := by simpa using hvy
            generalize vE y = vy at *
            repeat' ((fail_if_success at_builtin); (first | go_skip | go_guarded | go_step))
            refine (lives_any _).mono ?_
            rintro e wl ⟨rfl, hbl⟩
            dsimp only
            have hbf := hbw.trans (hbl.mono hbw.size)
            repeat' ((fail_if_success at_builtin); (first | go_skip | go_guarded | go_step))
            go_ret
            exact ⟨rfl, hbf⟩
        · have hvx' : (vE x != 0) = true := by simpa using hvx
          generalize vE x = vx at *
          repeat' ((fail_if_success at_builtin); (first | go_skip | go_guarded | go_step))
          refine (lives_any _).mono ?_
          rintro e wl ⟨rfl, hbl⟩
          dsimp only
          have hbf := hbw.trans (hbl.mono hbw.size)
          repeat' ((fail_if_success at_builtin); (first | go_skip | go_guarded | go_step))
          go_ret
          exact ⟨rfl, hbf⟩
end Go.Proofs.YtgloblokkejgmaaDoor
