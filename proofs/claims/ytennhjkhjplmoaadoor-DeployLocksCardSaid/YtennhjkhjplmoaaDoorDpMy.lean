/- Deploy: May. -/
import Derived.Test.YtennhjkhjplmoaaDoorDpU
namespace Go.Proofs.YtennhjkhjplmoaaDoor
open Go.RowKit
theorem posI_in {α : Type} {f : α → Bool} {l : List α} (h : posA f l < l.length) : posI f l = (posA f l : Int) := by
  unfold posI
  rw [if_pos h]
theorem posI_out {α : Type} {f : α → Bool} {l : List α} (h : ¬ posA f l < l.length) : posI f l = -1 := by
  unfold posI
  rw [if_neg h]
theorem run_eqZ (a : Ref) (w : World) : (binOp .eql refT (.agg #[.string a.run, .string a.job]) (.agg #[.string ⟨#[]⟩, .string ⟨#[]⟩])).run Tryd.prog w = .ok (.bool (eqR a zR)) w := run_eqR a zR w
theorem run_neZ (a : Ref) (w : World) : (binOp .neq refT (.agg #[.string a.run, .string a.job]) (.agg #[.string ⟨#[]⟩, .string ⟨#[]⟩])).run Tryd.prog w = .ok (.bool (!eqR a zR)) w := run_neR a zR w
set_option maxRecDepth 100000 in
set_option maxHeartbeats 2000000 in
theorem may_any (l : List Env) (s : ByteArray) (r : Ref) (A : Option Addr) (n c : Nat) (w : World) (h : Envs w A n c l) :
    Calls Tryd.prog 20 #[.slice A n c, .string s, .agg #[.string r.run, .string r.job]] w fun e w' => e = .returned (.bool (mayL l s r)) ∧ Below w.heap.size w w' := by
  have hb0 := (Below.refl w.heap.size w).alloc (Nat.le_refl _) (.cells #[.string r.run, .string r.job] refT)
  have q0 := (CellsAt.new w #[.string r.run, .string r.job] refT).cell 0 _ rfl
  have q1 := (CellsAt.new w #[.string r.run, .string r.job] refT).cell 1 _ rfl
  have zz : w.heap.size < (w.alloc (.cells #[.string r.run, .string r.job] refT)).heap.size := by simp
  go_enter Tryd.func20, Tryd.ntmps20
  go_upto_region 1 with (fail)
  generalize World.alloc w _ = w1 at *
  have h1 := h.below hb0
  have hn := h.n
  have hl := h.len
  have C := find_any l s A n c w1 h1
  replace hn := Lib.hid hn
  by_cases hk : posA (nameE s) l < l.length
  · rw [posI_in hk] at C
    obtain ⟨x, hx⟩ : ∃ x, l[posA (nameE s) l]? = some x := ⟨_, List.getElem?_eq_getElem hk⟩
    have hm : mayL l s r = (eqR x.holder zR && headR x.waiting r) := by unfold mayL; rw [hx]
    replace hk : posA (nameE s) l < n := by rw [← hn.out]; exact hk
    obtain ⟨g, o, A1, c1, A2, c2, rfl, hg, hS⟩ := env_at h1.rd hx
    have hwt := hS.wait
    have e1 := hS.e1
    have e2 := hS.e2
    have e3 := hS.e3
    clear hS hx
    generalize posA (nameE s) l = k at *
    have i0 : (0 : Int) ≤ (k : Int) := by omega
    have i1 : (k : Int) < (n : Int) := by omega
    have hq := run_eqZ x.holder
    replace C := Lib.hid C
    cases hz : eqR x.holder zR with
    | false =>
      rw [hz] at hm
      simp only [hz] at hq
      clear hz
      replace hm := Lib.hid hm
      clear hwt
      repeat' ((fail_if_success at_builtin); (first | go_skip | go_guarded | go_step))
      refine C.out.mono ?_
      clear C
      rintro e w2 ⟨rfl, hb2⟩
      dsimp only
      replace e1 := (hb2.cell (p := ⟨g, _, none⟩) hg).trans e1
      replace e2 := (hb2.cell (p := ⟨g, _, none⟩) hg).trans e2
      have hb3 := hb0.trans (hb2.mono hb0.size)
      replace hb3 := fun q => hb3.trans (Below.mono (Below.drewN w2 q) hb3.size)
      repeat' ((fail_if_success at_builtin); (first | go_skip | go_guarded | go_step))
      go_quiet (fail)
      replace hb3 := hb3 nq
      generalize w2.drewN nq = w3 at *
      repeat' ((fail_if_success at_builtin); (first | go_skip | go_guarded | go_step))
      go_ret
      exact ⟨by rw [hm.out]; rfl, hb3⟩
    | true =>
      rw [hz] at hm
      simp only [hz] at hq
      clear hz
      cases hw : x.waiting with
      | nil =>
        rw [hw] at hm e3
        replace hm := Lib.hid hm
        clear hwt hw
        repeat' ((fail_if_success at_builtin); (first | go_skip | go_guarded | go_step))
        refine C.out.mono ?_
        clear C
        rintro e w2 ⟨rfl, hb2⟩
        dsimp only
        replace e1 := (hb2.cell (p := ⟨g, _, none⟩) hg).trans e1
        replace e2 := (hb2.cell (p := ⟨g, _, none⟩) hg).trans e2
        replace e3 := (hb2.cell (p := ⟨g, _, none⟩) hg).trans e3
        have hb3 := hb0.trans (hb2.mono hb0.size)
        replace hb3 := fun q => hb3.trans (Below.mono (Below.drewN w2 q) hb3.size)
        repeat' ((fail_if_success at_builtin); (first | go_skip | go_guarded | go_step))
        go_quiet (fail)
        replace hb3 := hb3 nq
        generalize w2.drewN nq = w3 at *
        repeat' ((fail_if_success at_builtin); (first | go_skip | go_guarded | go_step))
        go_ret
        exact ⟨by rw [hm.out]; rfl, hb3⟩
      | cons y t =>
        rw [hw] at hm e3
        rw [hw] at hwt
        obtain ⟨b, p, rfl, hb, y0, y1⟩ := ref_at hwt (i := 0) (x := y) rfl
        rw [Nat.zero_mul, Nat.add_zero] at y0 y1
        have hll : 0 < (y :: t).length := by simp
        have hy : headR (y :: t) r = eqR y r := rfl
        rw [hy] at hm
        generalize (y :: t).length = m at *
        have hll2 : (0 : Int) < (m : Int) := by omega
        have hq2 := run_eqR y r
        clear hwt hw hy
        cases hv : eqR y r with
        | true =>
          rw [hv] at hm
          simp only [hv] at hq2
          clear hv
          replace hm := Lib.hid hm
          repeat' ((fail_if_success at_builtin); (first | go_skip | go_guarded | go_step))
          refine C.out.mono ?_
          clear C
          rintro e w2 ⟨rfl, hb2⟩
          dsimp only
          replace e1 := (hb2.cell (p := ⟨g, _, none⟩) hg).trans e1
          replace e2 := (hb2.cell (p := ⟨g, _, none⟩) hg).trans e2
          replace e3 := (hb2.cell (p := ⟨g, _, none⟩) hg).trans e3
          replace q0 := (hb2.cell (p := ⟨w.heap.size, _, none⟩) zz).trans q0
          replace q1 := (hb2.cell (p := ⟨w.heap.size, _, none⟩) zz).trans q1
          replace y0 := (hb2.cell (p := ⟨b, _, none⟩) hb).trans y0
          replace y1 := (hb2.cell (p := ⟨b, _, none⟩) hb).trans y1
          have hb3 := hb0.trans (hb2.mono hb0.size)
          replace hb3 := fun q => hb3.trans (Below.mono (Below.drewN w2 q) hb3.size)
          repeat' ((fail_if_success at_builtin); (first | go_skip | go_guarded | go_step))
          go_quiet (fail)
          replace hb3 := hb3 nq
          generalize w2.drewN nq = w3 at *
          repeat' ((fail_if_success at_builtin); (first | go_skip | go_guarded | go_step))
          go_ret
          exact ⟨by rw [hm.out]; rfl, hb3⟩
        | false =>
          rw [hv] at hm
          simp only [hv] at hq2
          clear hv
          replace hm := Lib.hid hm
          repeat' ((fail_if_success at_builtin); (first | go_skip | go_guarded | go_step))
          refine C.out.mono ?_
          clear C
          rintro e w2 ⟨rfl, hb2⟩
          dsimp only
          replace e1 := (hb2.cell (p := ⟨g, _, none⟩) hg).trans e1
          replace e2 := (hb2.cell (p := ⟨g, _, none⟩) hg).trans e2
          replace e3 := (hb2.cell (p := ⟨g, _, none⟩) hg).trans e3
          replace q0 := (hb2.cell (p := ⟨w.heap.size, _, none⟩) zz).trans q0
          replace q1 := (hb2.cell (p := ⟨w.heap.size, _, none⟩) zz).trans q1
          replace y0 := (hb2.cell (p := ⟨b, _, none⟩) hb).trans y0
          replace y1 := (hb2.cell (p := ⟨b, _, none⟩) hb).trans y1
          have hb3 := hb0.trans (hb2.mono hb0.size)
          replace hb3 := fun q => hb3.trans (Below.mono (Below.drewN w2 q) hb3.size)
          repeat' ((fail_if_success at_builtin); (first | go_skip | go_guarded | go_step))
          go_quiet (fail)
          replace hb3 := hb3 nq
          generalize w2.drewN nq = w3 at *
          repeat' ((fail_if_success at_builtin); (first | go_skip | go_guarded | go_step))
          go_ret
          exact ⟨by rw [hm.out]; rfl, hb3⟩
  · rw [posI_out hk] at C
    have hm : mayL l s r = false := by unfold mayL; rw [List.getElem?_eq_none (by omega)]
    replace hm := Lib.hid hm
    replace C := Lib.hid C
    clear hk
    repeat' ((fail_if_success at_builtin); (first | go_skip | go_guarded | go_step))
    refine C.out.mono ?_
    clear C
    rintro e w2 ⟨rfl, hb2⟩
    dsimp only
    have hb3 := hb0.trans (hb2.mono hb0.size)
    replace hb3 := fun q => hb3.trans (Below.mono (Below.drewN w2 q) hb3.size)
    repeat' ((fail_if_success at_builtin); (first | go_skip | go_guarded | go_step))
    go_quiet (fail)
    replace hb3 := hb3 nq
    generalize w2.drewN nq = w3 at *
    repeat' ((fail_if_success at_builtin); (first | go_skip | go_guarded | go_step))
    go_ret
    exact ⟨by rw [hm.out]; rfl, hb3⟩
end Go.Proofs.YtennhjkhjplmoaaDoor
