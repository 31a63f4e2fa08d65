/- Secret: the law about Put. -/
import Derived.Test.YtgloblokkejgmaaDoorSeL1
namespace Go.Proofs.YtgloblokkejgmaaDoor
open Go.RowKit
theorem putR_size {v : Int} {l : List Sec} {x : Sec} {m : Nat} (hl : l.length ≤ m) : (putR v l x).length ≤ m + 1 := by
  unfold putR
  split
  · omega
  · have := put_len (l := l) (s := x); omega
theorem putR_mem {v : Int} {l : List Sec} {x y : Sec} (h : y ∈ putR v l x) : y ∈ l ∨ y = x := by
  unfold putR at h
  split at h
  · exact .inl h
  · unfold putL at h
    split at h
    · rcases List.mem_or_eq_of_mem_set h with h | h
      · exact .inl h
      · exact .inr h
    · rw [List.mem_append, List.mem_cons] at h
      rcases h with h | h | h
      · exact .inl (List.mem_of_mem_take h)
      · exact .inr h
      · exact .inl (List.mem_of_mem_drop h)
theorem putR_asc {v : Int} {l : List Sec} {x : Sec} (h : ascB l = true) : ascB (putR v l x) = true := by
  unfold putR
  split
  · exact h
  · exact ascB_iff.2 (put_asc (ascB_iff.1 h) x)
/-- what Put leaves, as a list to be read -/
theorem put_secs {w : World} {v : Int} {l : List Sec} {x : Sec} {A : Option Addr} {n c : Nat} (h : RSlice rSec 5 w (fun b => b < w.heap.size) A n c (putR v l x)) (hl : l.length ≤ 900000) (he : ∀ y ∈ l, SecW y) (hx : SecW x) : Secs w A n c (putR v l x) :=
  ⟨h, by have := putR_size (v := v) (x := x) hl; omega, fun y hy => by
    rcases putR_mem hy with h | h
    · exact he y h
    · rw [h]; exact hx⟩
set_option maxRecDepth 100000 in
set_option maxHeartbeats 6000000 in
theorem puts_law (l : List Sec) (A : Option Addr) (n c : Nat) (x : Sec) (A1 : Option Addr) (c1 : Nat) (A2 : Option Addr) (c2 : Nat) (w : World) (h : SecsB w A n c l) (h1 : StrsR w (fun b => b < w.heap.size) A1 c1 x.refs) (h2 : StrsR w (fun b => b < w.heap.size) A2 c2 x.envs) (hx : SecB x) :
    Calls Tryd.prog 4 #[.slice A n c, .agg #[.string x.name, .string x.text, .int .i64 x.level, .slice A1 x.refs.length c1, .slice A2 x.envs.length c2]] w fun e w' => e = .returned (.bool true) ∧ Below w.heap.size w w' := by
  go_enter Tryd.func4, Tryd.ntmps4
  go_upto_region 1 with (fail)
  generalize hx_ : World.alloc w _ = wo1
  have hO1 : OwnB w wo1 [(w.heap.size, [.string x.name, .string x.text, .int .i64 x.level, .slice A1 x.refs.length c1, .slice A2 x.envs.length c2])] := by rw [← hx_]; exact (OwnB.refl w).new #[.string x.name, .string x.text, .int .i64 x.level, .slice A1 x.refs.length c1, .slice A2 x.envs.length c2] _ (g := w.heap.size)
  have hbn : Below w.heap.size w wo1 := by rw [← hx_]; exact (Below.refl _ _).alloc (Nat.le_refl _) _
  have zwo1 : w.heap.size + 0 < wo1.heap.size := by rw [← hx_]; simp <;> omega
  clear hx_
  have c0_0 : wo1.cell? ⟨w.heap.size, 0, none⟩ = some (.string x.name) := hO1.c 0 0
  have c0_1 : wo1.cell? ⟨w.heap.size, 1, none⟩ = some (.string x.text) := hO1.c 0 1
  have c0_2 : wo1.cell? ⟨w.heap.size, 2, none⟩ = some (.int .i64 x.level) := hO1.c 0 2
  have c0_3 : wo1.cell? ⟨w.heap.size, 3, none⟩ = some (.slice A1 x.refs.length c1) := hO1.c 0 3
  have c0_4 : wo1.cell? ⟨w.heap.size, 4, none⟩ = some (.slice A2 x.envs.length c2) := hO1.c 0 4
  have cf0 := hO1.fr 0
  clear hbn
  have hbw := hO1.below
  have C := small_any l A n c wo1 (h.below hbw)
  replace C := Lib.hid C
  repeat' ((fail_if_success at_builtin); (first | go_skip | go_guarded | go_step))
  refine C.out.mono ?_
  clear C
  rintro e w1 ⟨rfl, hw1⟩
  rw [hw1]
  clear hw1 w1
  dsimp only
  cases hs : smallL l with
  | false =>
    repeat' ((fail_if_success at_builtin); (first | go_skip | go_guarded | go_step))
    refine (lives_any _).mono ?_
    rintro e wl ⟨rfl, hbl⟩
    dsimp only
    have hbf := hbw.trans (hbl.mono hbw.size)
    repeat' ((fail_if_success at_builtin); (first | go_skip | go_guarded | go_step))
    go_ret
    exact ⟨rfl, hbf⟩
  | true =>
    have hbv := (Below.refl wo1.heap.size wo1).alloc (Nat.le_refl _) (.cells #[.string x.name, .string x.text, .int .i64 x.level, .slice A1 x.refs.length c1, .slice A2 x.envs.length c2] secT)
    have hbw0 := hbw.trans (hbv.mono hbw.size)
    have C := small_any [x] (some ⟨wo1.heap.size, 0, none⟩) 1 1 (wo1.alloc (.cells #[.string x.name, .string x.text, .int .i64 x.level, .slice A1 x.refs.length c1, .slice A2 x.envs.length c2] secT)) (secsB_one (CellsAt.new wo1 #[.string x.name, .string x.text, .int .i64 x.level, .slice A1 x.refs.length c1, .slice A2 x.envs.length c2] secT) (h1.upB hbw0) (h2.upB hbw0) hx)
    replace C := Lib.hid C
    repeat' ((fail_if_success at_builtin); (first | go_skip | go_guarded | go_step))
    refine C.out.mono ?_
    clear C
    rintro e w1 ⟨rfl, hw1⟩
    dsimp only
    have hb1 : Below wo1.heap.size wo1 w1 := by rw [hw1]; exact hbv
    clear hbv hbw0 hw1 hbw
    have zw1 := hb1.size
    have hO2 : OwnB w w1 [(w.heap.size, [.string x.name, .string x.text, .int .i64 x.level, .slice A1 x.refs.length c1, .slice A2 x.envs.length c2])] := hO1.kept hb1
    clear c0_0 c0_1 c0_2 c0_3 c0_4 cf0 hO1
    have c0_0 : w1.cell? ⟨w.heap.size, 0, none⟩ = some (.string x.name) := hO2.c 0 0
    have c0_1 : w1.cell? ⟨w.heap.size, 1, none⟩ = some (.string x.text) := hO2.c 0 1
    have c0_2 : w1.cell? ⟨w.heap.size, 2, none⟩ = some (.int .i64 x.level) := hO2.c 0 2
    have c0_3 : w1.cell? ⟨w.heap.size, 3, none⟩ = some (.slice A1 x.refs.length c1) := hO2.c 0 3
    have c0_4 : w1.cell? ⟨w.heap.size, 4, none⟩ = some (.slice A2 x.envs.length c2) := hO2.c 0 4
    have cf0 := hO2.fr 0
    have hbw := hO2.below
    cases hs2 : smallL [x] with
    | false =>
      repeat' ((fail_if_success at_builtin); (first | go_skip | go_guarded | go_step))
      refine (lives_any _).mono ?_
      rintro e wl ⟨rfl, hbl⟩
      dsimp only
      have hbf := hbw.trans (hbl.mono hbw.size)
      repeat' ((fail_if_success at_builtin); (first | go_skip | go_guarded | go_step))
      go_ret
      exact ⟨rfl, hbf⟩
    | true =>
      have hw := small_one hs2
      have hl70 := (smallL_out hs).1
      have hea := (smallL_out hs).2
      have hS := (h.below hbw).secs hs
      clear hs2
      have C := put_any l A n c x A1 c1 A2 c2 w1 hS (h1.upB hbw) (h2.upB hbw) hw
      unfold RetPut at C
      replace C := Lib.hid C
      repeat' ((fail_if_success at_builtin); (first | go_skip | go_guarded | go_step))
      refine C.out.mono ?_
      clear C
      rintro e w2 ⟨PA, pn, pc, rfl, hp, hb2⟩
      dsimp only
      clear hbw
      have zw2 := hb2.size
      have hO3 : OwnB w w2 [(w.heap.size, [.string x.name, .string x.text, .int .i64 x.level, .slice A1 x.refs.length c1, .slice A2 x.envs.length c2])] := hO2.kept hb2
      clear c0_0 c0_1 c0_2 c0_3 c0_4 cf0 hO2
      have c0_0 : w2.cell? ⟨w.heap.size, 0, none⟩ = some (.string x.name) := hO3.c 0 0
      have c0_1 : w2.cell? ⟨w.heap.size, 1, none⟩ = some (.string x.text) := hO3.c 0 1
      have c0_2 : w2.cell? ⟨w.heap.size, 2, none⟩ = some (.int .i64 x.level) := hO3.c 0 2
      have c0_3 : w2.cell? ⟨w.heap.size, 3, none⟩ = some (.slice A1 x.refs.length c1) := hO3.c 0 3
      have c0_4 : w2.cell? ⟨w.heap.size, 4, none⟩ = some (.slice A2 x.envs.length c2) := hO3.c 0 4
      have cf0 := hO3.fr 0
      have hbw := hO3.below
      have C := refPut_any l A n c x A1 c1 A2 c2 w2 (hS.below hb2) (h1.upB hbw) (h2.upB hbw) hw
      unfold RetPut at C
      replace C := Lib.hid C
      repeat' ((fail_if_success at_builtin); (first | go_skip | go_guarded | go_step))
      refine C.out.mono ?_
      clear C
      rintro e w3 ⟨QA, qn, qc, rfl, hq, hb3⟩
      dsimp only
      have hP3 := (put_secs hp (by omega) hea hw).below hb3
      have hQ3 := put_secs hq (by omega) hea hw
      have hS3 := (hS.below hb2).below hb3
      clear hp hq hS hbw
      have zw3 := hb3.size
      have hO4 : OwnB w w3 [(w.heap.size, [.string x.name, .string x.text, .int .i64 x.level, .slice A1 x.refs.length c1, .slice A2 x.envs.length c2])] := hO3.kept hb3
      clear c0_0 c0_1 c0_2 c0_3 c0_4 cf0 hO3
      have c0_0 : w3.cell? ⟨w.heap.size, 0, none⟩ = some (.string x.name) := hO4.c 0 0
      have c0_1 : w3.cell? ⟨w.heap.size, 1, none⟩ = some (.string x.text) := hO4.c 0 1
      have c0_2 : w3.cell? ⟨w.heap.size, 2, none⟩ = some (.int .i64 x.level) := hO4.c 0 2
      have c0_3 : w3.cell? ⟨w.heap.size, 3, none⟩ = some (.slice A1 x.refs.length c1) := hO4.c 0 3
      have c0_4 : w3.cell? ⟨w.heap.size, 4, none⟩ = some (.slice A2 x.envs.length c2) := hO4.c 0 4
      have cf0 := hO4.fr 0
      have hbw := hO4.below
      have hasc : ascB l = true → ascB (putR (vE x) l x) = true := fun h => putR_asc h
      generalize putE (vE x) l x = pe at *
      generalize putR (vE x) l x = pl at *
      have g1 : (pe == pe) = true := by simp
      obtain rfl : qn = pn := hQ3.n.symm.trans hP3.n
      have C := refSameS_any pl PA qn pc QA qc w3 hP3 hQ3
      replace C := Lib.hid C
      repeat' ((fail_if_success at_builtin); (first | go_skip | go_guarded | go_step))
      refine C.out.mono ?_
      clear C
      rintro e w4 ⟨rfl, hb4⟩
      dsimp only
      have hP4 := hP3.below hb4
      have hS4 := hS3.below hb4
      clear hP3 hQ3 hS3 hbw
      have zw4 := hb4.size
      have hO5 : OwnB w w4 [(w.heap.size, [.string x.name, .string x.text, .int .i64 x.level, .slice A1 x.refs.length c1, .slice A2 x.envs.length c2])] := hO4.kept hb4
      clear c0_0 c0_1 c0_2 c0_3 c0_4 cf0 hO4
      have c0_0 : w4.cell? ⟨w.heap.size, 0, none⟩ = some (.string x.name) := hO5.c 0 0
      have c0_1 : w4.cell? ⟨w.heap.size, 1, none⟩ = some (.string x.text) := hO5.c 0 1
      have c0_2 : w4.cell? ⟨w.heap.size, 2, none⟩ = some (.int .i64 x.level) := hO5.c 0 2
      have c0_3 : w4.cell? ⟨w.heap.size, 3, none⟩ = some (.slice A1 x.refs.length c1) := hO5.c 0 3
      have c0_4 : w4.cell? ⟨w.heap.size, 4, none⟩ = some (.slice A2 x.envs.length c2) := hO5.c 0 4
      have cf0 := hO5.fr 0
      have hbw := hO5.below
      by_cases hpe : pe = 0
      · have hpe' : (pe != 0) = false := by simp [hpe]
        have C := refAscS_any l A n c w4 hS4
        generalize ascB l = al at *
        replace C := Lib.hid C
        repeat' ((fail_if_success at_builtin); (first | go_skip | go_guarded | go_step))
        refine C.out.mono ?_
        clear C
        rintro e w5 ⟨rfl, hb5⟩
        dsimp only
        have hP5 := hP4.below hb5
        clear hP4 hS4 hbw
        have zw5 := hb5.size
        have hO6 : OwnB w w5 [(w.heap.size, [.string x.name, .string x.text, .int .i64 x.level, .slice A1 x.refs.length c1, .slice A2 x.envs.length c2])] := hO5.kept hb5
        clear c0_0 c0_1 c0_2 c0_3 c0_4 cf0 hO5
        have c0_0 : w5.cell? ⟨w.heap.size, 0, none⟩ = some (.string x.name) := hO6.c 0 0
        have c0_1 : w5.cell? ⟨w.heap.size, 1, none⟩ = some (.string x.text) := hO6.c 0 1
        have c0_2 : w5.cell? ⟨w.heap.size, 2, none⟩ = some (.int .i64 x.level) := hO6.c 0 2
        have c0_3 : w5.cell? ⟨w.heap.size, 3, none⟩ = some (.slice A1 x.refs.length c1) := hO6.c 0 3
        have c0_4 : w5.cell? ⟨w.heap.size, 4, none⟩ = some (.slice A2 x.envs.length c2) := hO6.c 0 4
        have cf0 := hO6.fr 0
        have hbw := hO6.below
        cases al with
        | false =>
          repeat' ((fail_if_success at_builtin); (first | go_skip | go_guarded | go_step))
          refine (lives_any _).mono ?_
          rintro e wl ⟨rfl, hbl⟩
          dsimp only
          have hbf := hbw.trans (hbl.mono hbw.size)
          repeat' ((fail_if_success at_builtin); (first | go_skip | go_guarded | go_step))
          go_ret
          exact ⟨rfl, hbf⟩
        | true =>
          have ha := hasc rfl
          have C := refAscS_any pl PA qn pc w5 hP5
          rw [ha] at C
          replace C := Lib.hid C
          repeat' ((fail_if_success at_builtin); (first | go_skip | go_guarded | go_step))
          refine C.out.mono ?_
          clear C
          rintro e w6 ⟨rfl, hb6⟩
          dsimp only
          have hbx := hbw.trans (hb6.mono hbw.size)
          repeat' ((fail_if_success at_builtin); (first | go_skip | go_guarded | go_step))
          refine (lives_any _).mono ?_
          rintro e wl ⟨rfl, hbl⟩
          dsimp only
          have hbf := hbx.trans (hbl.mono hbx.size)
          repeat' ((fail_if_success at_builtin); (first | go_skip | go_guarded | go_step))
          go_ret
          exact ⟨rfl, hbf⟩
      · have hpe' : (pe != 0) = true := by simpa using hpe
        repeat' ((fail_if_success at_builtin); (first | go_skip | go_guarded | go_step))
        refine (lives_any _).mono ?_
        rintro e wl ⟨rfl, hbl⟩
        dsimp only
        have hbf := hbw.trans (hbl.mono hbw.size)
        repeat' ((fail_if_success at_builtin); (first | go_skip | go_guarded | go_step))
        go_ret
        exact ⟨rfl, hbf⟩
end Go.Proofs.YtgloblokkejgmaaDoor
