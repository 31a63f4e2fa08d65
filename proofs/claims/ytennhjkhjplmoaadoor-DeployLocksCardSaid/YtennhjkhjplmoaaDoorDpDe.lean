/- Deploy: deployments; the document's deployment. -/
import Derived.Test.YtennhjkhjplmoaaDoorDpAb
import Derived.Test.YtennhjkhjplmoaaDoorDpV
import Derived.Test.YtennhjkhjplmoaaDoorDpCu
namespace Go.Proofs.YtennhjkhjplmoaaDoor
open Go.RowKit
theorem depO_bad {last : Int} {d : Dep} (h : (properR d.ref && (d.st == 1 || d.st == 2)) = false) : depO last d = 1 := by unfold depO; rw [if_pos h]
theorem depO_range {last : Int} {d : Dep} (h : (properR d.ref && (d.st == 1 || d.st == 2)) = true) (h2 : d.at_ < 0 ∨ 1125899906842624 < d.at_) : depO last d = 2 := by unfold depO; rw [if_neg (by rw [h]; simp), if_pos h2]
theorem depO_order {last : Int} {d : Dep} (h : (properR d.ref && (d.st == 1 || d.st == 2)) = true) (h2 : ¬ (d.at_ < 0 ∨ 1125899906842624 < d.at_)) (h3 : d.at_ < last) : depO last d = 22 := by unfold depO; rw [if_neg (by rw [h]; simp), if_neg h2, if_pos h3]
theorem depO_ok {last : Int} {d : Dep} (h : (properR d.ref && (d.st == 1 || d.st == 2)) = true) (h2 : ¬ (d.at_ < 0 ∨ 1125899906842624 < d.at_)) (h3 : ¬ d.at_ < last) : depO last d = 0 := by unfold depO; rw [if_neg (by rw [h]; simp), if_neg h2, if_neg h3]
set_option maxRecDepth 100000 in
set_option maxHeartbeats 4000000 in
theorem rdeployment_any (x : Dep) (last : Int) (w : World) :
    Calls Tryd.prog 73 #[.agg #[.string x.ref.run, .string x.ref.job, .int .u64 x.ver, .int .i64 x.at_, .int .i64 x.st], .int .i64 last] w fun e w' => e = .returned (.int .i64 (depO last x)) ∧ Below w.heap.size w w' := by
  go_enter Tryd.func73, Tryd.ntmps73
  go_upto_region 1 with (fail)
  generalize hx_ : World.alloc w _ = wo1
  have hO1 : OwnB w wo1 [(w.heap.size, [.string x.ref.run, .string x.ref.job, .int .u64 x.ver, .int .i64 x.at_, .int .i64 x.st])] := by rw [← hx_]; exact (OwnB.refl w).new #[.string x.ref.run, .string x.ref.job, .int .u64 x.ver, .int .i64 x.at_, .int .i64 x.st] _ (g := w.heap.size)
  have hbn : Below w.heap.size w wo1 := by rw [← hx_]; exact (Below.refl _ _).alloc (Nat.le_refl _) _
  have zwo1 : w.heap.size + 0 < wo1.heap.size := by rw [← hx_]; simp <;> omega
  clear hx_
  have c0_0 : wo1.cell? ⟨w.heap.size, 0, none⟩ = some (.string x.ref.run) := hO1.c 0 0
  have c0_1 : wo1.cell? ⟨w.heap.size, 1, none⟩ = some (.string x.ref.job) := hO1.c 0 1
  have c0_2 : wo1.cell? ⟨w.heap.size, 2, none⟩ = some (.int .u64 x.ver) := hO1.c 0 2
  have c0_3 : wo1.cell? ⟨w.heap.size, 3, none⟩ = some (.int .i64 x.at_) := hO1.c 0 3
  have c0_4 : wo1.cell? ⟨w.heap.size, 4, none⟩ = some (.int .i64 x.st) := hO1.c 0 4
  have cf0 := hO1.fr 0
  clear hbn
  have C := rproper_any x.ref wo1
  cases hpr : properR x.ref with
  | false =>
    rw [hpr] at C
    have hr := depO_bad (last := last) (d := x) (by rw [hpr]; rfl)
    replace hr := Lib.hid hr
    replace C := Lib.hid C
    repeat' ((fail_if_success at_builtin); (first | go_skip | go_guarded | go_step))
    refine C.out.mono ?_
    clear C
    rintro e w2 ⟨rfl, hb2⟩
    dsimp only
    have zw2 := hb2.size
    have hO2 : OwnB w w2 [(w.heap.size, [.string x.ref.run, .string x.ref.job, .int .u64 x.ver, .int .i64 x.at_, .int .i64 x.st])] := hO1.kept hb2
    clear c0_0 c0_1 c0_2 c0_3 c0_4 cf0 hO1
    have c0_0 : w2.cell? ⟨w.heap.size, 0, none⟩ = some (.string x.ref.run) := hO2.c 0 0
    have c0_1 : w2.cell? ⟨w.heap.size, 1, none⟩ = some (.string x.ref.job) := hO2.c 0 1
    have c0_2 : w2.cell? ⟨w.heap.size, 2, none⟩ = some (.int .u64 x.ver) := hO2.c 0 2
    have c0_3 : w2.cell? ⟨w.heap.size, 3, none⟩ = some (.int .i64 x.at_) := hO2.c 0 3
    have c0_4 : w2.cell? ⟨w.heap.size, 4, none⟩ = some (.int .i64 x.st) := hO2.c 0 4
    have cf0 := hO2.fr 0
    have hbz := hO2.below
    repeat' ((fail_if_success at_builtin); (first | go_skip | go_guarded | go_step))
    go_ret
    exact ⟨by rw [hr.out]; rfl, hbz⟩
  | true =>
    rw [hpr] at C
    replace C := Lib.hid C
    repeat' ((fail_if_success at_builtin); (first | go_skip | go_guarded | go_step))
    refine C.out.mono ?_
    clear C
    rintro e w2 ⟨rfl, hb2⟩
    dsimp only
    have zw2 := hb2.size
    have hO2 : OwnB w w2 [(w.heap.size, [.string x.ref.run, .string x.ref.job, .int .u64 x.ver, .int .i64 x.at_, .int .i64 x.st])] := hO1.kept hb2
    clear c0_0 c0_1 c0_2 c0_3 c0_4 cf0 hO1
    have c0_0 : w2.cell? ⟨w.heap.size, 0, none⟩ = some (.string x.ref.run) := hO2.c 0 0
    have c0_1 : w2.cell? ⟨w.heap.size, 1, none⟩ = some (.string x.ref.job) := hO2.c 0 1
    have c0_2 : w2.cell? ⟨w.heap.size, 2, none⟩ = some (.int .u64 x.ver) := hO2.c 0 2
    have c0_3 : w2.cell? ⟨w.heap.size, 3, none⟩ = some (.int .i64 x.at_) := hO2.c 0 3
    have c0_4 : w2.cell? ⟨w.heap.size, 4, none⟩ = some (.int .i64 x.st) := hO2.c 0 4
    have cf0 := hO2.fr 0
    have hbz := hO2.below
    by_cases hs1 : x.st = 1
    · have f1 : (x.st != 1) = false := by simp [hs1]
      have hok : (properR x.ref && (x.st == 1 || x.st == 2)) = true := by rw [hpr, hs1]; rfl
      clear hs1
      by_cases ha1 : x.at_ < 0
      · have hr := depO_range (last := last) hok (Or.inl ha1)
        replace hr := Lib.hid hr
        repeat' ((fail_if_success at_builtin); (first | go_skip | go_guarded | go_step))
        go_ret
        exact ⟨by rw [hr.out]; rfl, hbz⟩
      · by_cases ha2 : 1125899906842624 < x.at_
        · have hr := depO_range (last := last) hok (Or.inr ha2)
          replace hr := Lib.hid hr
          repeat' ((fail_if_success at_builtin); (first | go_skip | go_guarded | go_step))
          go_ret
          exact ⟨by rw [hr.out]; rfl, hbz⟩
        · have ha3 : ¬ (x.at_ < 0 ∨ 1125899906842624 < x.at_) := by omega
          by_cases ha4 : x.at_ < last
          · have hr := depO_order hok ha3 ha4
            replace hr := Lib.hid hr
            replace ha3 := Lib.hid ha3
            repeat' ((fail_if_success at_builtin); (first | go_skip | go_guarded | go_step))
            go_ret
            exact ⟨by rw [hr.out]; rfl, hbz⟩
          · have hr := depO_ok hok ha3 ha4
            replace hr := Lib.hid hr
            replace ha3 := Lib.hid ha3
            repeat' ((fail_if_success at_builtin); (first | go_skip | go_guarded | go_step))
            go_ret
            exact ⟨by rw [hr.out]; rfl, hbz⟩
    · have f1 : (x.st != 1) = true := by simpa using hs1
      by_cases hs2 : x.st = 2
      · have f2 : (x.st != 2) = false := by simp [hs2]
        have hok : (properR x.ref && (x.st == 1 || x.st == 2)) = true := by rw [hpr, hs2]; rfl
        clear hs1 hs2
        by_cases ha1 : x.at_ < 0
        · have hr := depO_range (last := last) hok (Or.inl ha1)
          replace hr := Lib.hid hr
          repeat' ((fail_if_success at_builtin); (first | go_skip | go_guarded | go_step))
          go_ret
          exact ⟨by rw [hr.out]; rfl, hbz⟩
        · by_cases ha2 : 1125899906842624 < x.at_
          · have hr := depO_range (last := last) hok (Or.inr ha2)
            replace hr := Lib.hid hr
            repeat' ((fail_if_success at_builtin); (first | go_skip | go_guarded | go_step))
            go_ret
            exact ⟨by rw [hr.out]; rfl, hbz⟩
          · have ha3 : ¬ (x.at_ < 0 ∨ 1125899906842624 < x.at_) := by omega
            by_cases ha4 : x.at_ < last
            · have hr := depO_order hok ha3 ha4
              replace hr := Lib.hid hr
              replace ha3 := Lib.hid ha3
              repeat' ((fail_if_success at_builtin); (first | go_skip | go_guarded | go_step))
              go_ret
              exact ⟨by rw [hr.out]; rfl, hbz⟩
            · have hr := depO_ok hok ha3 ha4
              replace hr := Lib.hid hr
              replace ha3 := Lib.hid ha3
              repeat' ((fail_if_success at_builtin); (first | go_skip | go_guarded | go_step))
              go_ret
              exact ⟨by rw [hr.out]; rfl, hbz⟩
      · have f2 : (x.st != 2) = true := by simpa using hs2
        have hno : (properR x.ref && (x.st == 1 || x.st == 2)) = false := by
          have a1 : (x.st == 1) = false := by simpa using hs1
          have a2 : (x.st == 2) = false := by simpa using hs2
          rw [a1, a2]; exact Bool.and_false _
        clear hs1 hs2
        have hr := depO_bad (last := last) hno
        replace hr := Lib.hid hr
        clear hno
        repeat' ((fail_if_success at_builtin); (first | go_skip | go_guarded | go_step))
        go_ret
        exact ⟨by rw [hr.out]; rfl, hbz⟩
set_option maxRecDepth 100000 in
set_option maxHeartbeats 4000000 in
theorem deployments_any (l : List Dep) (A : Option Addr) (n c : Nat) (w : World) (h : Deps w A n c l) :
    Calls Tryd.prog 36 #[.slice A n c] w fun e w' => e = .returned (.int .i64 (histF l)) ∧ Below w.heap.size w w' := by
  go_enter Tryd.func36, Tryd.ntmps36
  have hn := h.rd.1
  have hl := h.len
  by_cases h64 : 64 < n
  · have h64i : (64 : Int) < (n : Int) := by omega
    have hr : histF l = 15 := by unfold histF; rw [if_pos (by omega)]
    replace hr := Lib.hid hr
    replace hn := Lib.hid hn
    repeat' ((fail_if_success at_builtin); (first | go_skip | go_guarded | go_step))
    go_ret
    exact ⟨by rw [hr.out]; rfl, Below.refl _ _⟩
  · have h64i : ¬ (64 : Int) < (n : Int) := by omega
    have hm : histF l = depsF 0 l := by unfold histF; rw [if_neg (by omega)]
    replace hn := Lib.hid hn
    replace hm := Lib.hid hm
    repeat' ((fail_if_success at_builtin); (first | go_skip | go_guarded | go_step))
    go_loopw [10] (fun u10 wr => ∃ i : Nat, i ≤ n ∧ u10 = .int .i64 (i : Int) ∧ Below w.heap.size w wr ∧ depsF 0 l = depsF (lastAt l i) (l.drop i)) (fun u10 _ => n - (intOf u10).toNat)
    case atStart => exact ⟨0, by omega, rfl, Below.refl _ _, rfl⟩
    case round =>
      obtain ⟨i, hi, rfl, hb, hp⟩ := hrel
      have i0 : (0 : Int) ≤ (i : Int) := by omega
      have i2 : IntKind.i64.wrap ((i : Int) + 1) = (i : Int) + 1 := IntWalk.i64_in _ (by omega)
      by_cases hlt : i < n
      · have i1 : (i : Int) < (n : Int) := by omega
        obtain ⟨x, hx⟩ : ∃ x, l[i]? = some x := ⟨_, List.getElem?_eq_getElem (by have := hn.out; omega)⟩
        rw [deps_at hx, ← hm.out] at hp
        obtain ⟨g, o, rfl, hg, hS⟩ := dep_at h.rd hx
        have hS2 := hS.below hg hb
        have e0 := hS2.e0
        have e1 := hS2.e1
        have e2 := hS2.e2
        have e3 := hS2.e3
        have e4 := hS2.e4
        clear hS hS2
        go_upto_region 6 with (fail)
        have hba := (Below.refl wr.heap.size wr).alloc (Nat.le_refl _) (.cells #[.string x.ref.run, .string x.ref.job, .int .u64 x.ver, .int .i64 x.at_, .int .i64 x.st] depT)
        have hC := CellsAt.new wr #[.string x.ref.run, .string x.ref.job, .int .u64 x.ver, .int .i64 x.at_, .int .i64 x.st] depT
        generalize World.alloc wr _ = wa at *
        clear e0 e1 e2 e3 e4
        have C := proper_any x.ref wa
        have hbw := hb.trans (hba.mono hb.size)
        have e0 := hC.cell 0 _ rfl
        have e1 := hC.cell 1 _ rfl
        have e2 := hC.cell 2 _ rfl
        have e3 := hC.cell 3 _ rfl
        have e4 := hC.cell 4 _ rfl
        cases hpr : properR x.ref with
        | false =>
          rw [hpr] at C
          have hr : histF l = 1 := by
            have hz := depO_bad (last := lastAt l i) (d := x) (by rw [hpr]; rfl)
            rw [hz, if_neg (by decide)] at hp
            exact hp
          clear hp
          replace hr := Lib.hid hr
          replace C := Lib.hid C
          repeat' ((fail_if_success at_builtin); (first | go_skip | go_guarded | go_step))
          refine C.out.mono ?_
          clear C
          rintro e w2 ⟨rfl, hb2⟩
          dsimp only
          have hbz := hbw.trans (hb2.mono hbw.size)
          repeat' ((fail_if_success at_builtin); (first | go_skip | go_guarded | go_step))
          go_ret
          exact ⟨by rw [hr.out]; rfl, hbz⟩
        | true =>
          rw [hpr] at C
          replace C := Lib.hid C
          repeat' ((fail_if_success at_builtin); (first | go_skip | go_guarded | go_step))
          refine C.out.mono ?_
          clear C
          rintro e w2 ⟨rfl, hb2⟩
          dsimp only
          have hbz := hbw.trans (hb2.mono hbw.size)
          have hkl := hC.lt
          replace e0 := (hb2.cell (p := ⟨wr.heap.size, 0, none⟩) hkl).trans e0
          replace e1 := (hb2.cell (p := ⟨wr.heap.size, 1, none⟩) hkl).trans e1
          replace e2 := (hb2.cell (p := ⟨wr.heap.size, 2, none⟩) hkl).trans e2
          replace e3 := (hb2.cell (p := ⟨wr.heap.size, 3, none⟩) hkl).trans e3
          replace e4 := (hb2.cell (p := ⟨wr.heap.size, 4, none⟩) hkl).trans e4
          clear hC hkl hba
          by_cases hs1 : x.st = 1
          · have f1 : (x.st != 1) = false := by simp [hs1]
            have hok : (properR x.ref && (x.st == 1 || x.st == 2)) = true := by rw [hpr, hs1]; rfl
            clear hs1
            by_cases ha1 : x.at_ < 0
            · have hr : histF l = 2 := by
                rw [depO_range hok (Or.inl ha1), if_neg (by decide)] at hp
                exact hp
              clear hp
              replace hr := Lib.hid hr
              repeat' ((fail_if_success at_builtin); (first | go_skip | go_guarded | go_step))
              go_ret
              exact ⟨by rw [hr.out]; rfl, hbz⟩
            · by_cases ha2 : 1125899906842624 < x.at_
              · have hr : histF l = 2 := by
                  rw [depO_range hok (Or.inr ha2), if_neg (by decide)] at hp
                  exact hp
                clear hp
                replace hr := Lib.hid hr
                repeat' ((fail_if_success at_builtin); (first | go_skip | go_guarded | go_step))
                go_ret
                exact ⟨by rw [hr.out]; rfl, hbz⟩
              · have ha3 := Lib.hid (show ¬ (x.at_ < 0 ∨ 1125899906842624 < x.at_) by omega)
                cases i with
                | zero =>
                  have hp3 : depsF 0 l = depsF (lastAt l (0 + 1)) (l.drop (0 + 1)) := by
                    rw [show lastAt l 0 = 0 from rfl, depO_ok hok ha3.out ha1, if_pos rfl, hm.out] at hp
                    exact hp
                  clear hp
                  replace hp3 := Lib.hid hp3
                  have hd : decide ((0 : Int) < ((0 : Nat) : Int)) = false := rfl
                  repeat' ((fail_if_success at_builtin); (first | go_skip | go_guarded | go_step))
                  go_quiet (fail)
                  have hbq := hbz.trans ((Below.drewN w2 nq).mono hbz.size)
                  generalize w2.drewN nq = w3 at *
                  repeat' ((fail_if_success at_builtin); (first | go_skip | go_guarded | go_step))
                  go_roundw
                  case rel => exact ⟨0 + 1, by omega, by first | rfl | go_num, hbq, hp3.out⟩
                  case measure => (try go_num); (try simp [intOf]); (try omega)
                | succ j =>
                  have hd : decide ((0 : Int) < ((j + 1 : Nat) : Int)) = true := decide_eq_true (by omega)
                  have hd2 : (0 : Int) < (j : Int) + 1 := by omega
                  have j1 : IntKind.i64.wrap (((j + 1 : Nat) : Int) - 1) = (j : Int) := by rw [show ((j + 1 : Nat) : Int) - 1 = (j : Int) from by omega]; exact IntWalk.i64_in _ (by omega)
                  have j4 : IntKind.i64.wrap ((j : Int) + 1 - 1) = (j : Int) := by rw [show (j : Int) + 1 - 1 = (j : Int) from by omega]; exact IntWalk.i64_in _ (by omega)
                  have j2 : (0 : Int) ≤ (j : Int) := by omega
                  have j3 : (j : Int) < (n : Int) := by omega
                  obtain ⟨y, hy⟩ : ∃ y, l[j]? = some y := ⟨_, List.getElem?_eq_getElem (by have := hn.out; omega)⟩
                  have hla : lastAt l (j + 1) = y.at_ := by show (l[j]?.getD zD).at_ = _; rw [hy]; rfl
                  rw [hla] at hp
                  obtain ⟨g2, o2, hA2, hg2, hS⟩ := dep_at h.rd hy
                  injection hA2 with hA2
                  injection hA2 with a1 a2
                  subst a1 a2
                  have d3 := (hS.below hg hbz).e3
                  clear hS hy hla
                  by_cases ha4 : x.at_ < y.at_
                  · have hd4 : decide (x.at_ < y.at_) = true := decide_eq_true ha4
                    have hr : histF l = 22 := by
                      rw [depO_order hok ha3.out ha4, if_neg (by decide)] at hp
                      exact hp
                    clear hp
                    replace hr := Lib.hid hr
                    repeat' ((fail_if_success at_builtin); (first | go_skip | go_guarded | go_step))
                    go_quiet (fail)
                    have hbq := hbz.trans ((Below.drewN w2 nq).mono hbz.size)
                    generalize w2.drewN nq = w3 at *
                    repeat' ((fail_if_success at_builtin); (first | go_skip | go_guarded | go_step))
                    go_ret
                    exact ⟨by rw [hr.out]; rfl, hbq⟩
                  · have hd4 : decide (x.at_ < y.at_) = false := decide_eq_false ha4
                    have hp3 : depsF 0 l = depsF (lastAt l (j + 1 + 1)) (l.drop (j + 1 + 1)) := by
                      rw [depO_ok hok ha3.out ha4, if_pos rfl, hm.out] at hp
                      exact hp
                    clear hp
                    replace hp3 := Lib.hid hp3
                    repeat' ((fail_if_success at_builtin); (first | go_skip | go_guarded | go_step))
                    go_quiet (fail)
                    have hbq := hbz.trans ((Below.drewN w2 nq).mono hbz.size)
                    generalize w2.drewN nq = w3 at *
                    repeat' ((fail_if_success at_builtin); (first | go_skip | go_guarded | go_step))
                    go_roundw
                    case rel => exact ⟨j + 1 + 1, by omega, by first | rfl | go_num, hbq, hp3.out⟩
                    case measure => (try go_num); (try simp [intOf]); (try omega)
          · have f1 : (x.st != 1) = true := by simpa using hs1
            by_cases hs2 : x.st = 2
            · have f2 : (x.st != 2) = false := by simp [hs2]
              have hok : (properR x.ref && (x.st == 1 || x.st == 2)) = true := by rw [hpr, hs2]; rfl
              clear hs1 hs2
              by_cases ha1 : x.at_ < 0
              · have hr : histF l = 2 := by
                  rw [depO_range hok (Or.inl ha1), if_neg (by decide)] at hp
                  exact hp
                clear hp
                replace hr := Lib.hid hr
                repeat' ((fail_if_success at_builtin); (first | go_skip | go_guarded | go_step))
                go_ret
                exact ⟨by rw [hr.out]; rfl, hbz⟩
              · by_cases ha2 : 1125899906842624 < x.at_
                · have hr : histF l = 2 := by
                    rw [depO_range hok (Or.inr ha2), if_neg (by decide)] at hp
                    exact hp
                  clear hp
                  replace hr := Lib.hid hr
                  repeat' ((fail_if_success at_builtin); (first | go_skip | go_guarded | go_step))
                  go_ret
                  exact ⟨by rw [hr.out]; rfl, hbz⟩
                · have ha3 := Lib.hid (show ¬ (x.at_ < 0 ∨ 1125899906842624 < x.at_) by omega)
                  cases i with
                  | zero =>
                    have hp3 : depsF 0 l = depsF (lastAt l (0 + 1)) (l.drop (0 + 1)) := by
                      rw [show lastAt l 0 = 0 from rfl, depO_ok hok ha3.out ha1, if_pos rfl, hm.out] at hp
                      exact hp
                    clear hp
                    replace hp3 := Lib.hid hp3
                    have hd : decide ((0 : Int) < ((0 : Nat) : Int)) = false := rfl
                    repeat' ((fail_if_success at_builtin); (first | go_skip | go_guarded | go_step))
                    go_quiet (fail)
                    have hbq := hbz.trans ((Below.drewN w2 nq).mono hbz.size)
                    generalize w2.drewN nq = w3 at *
                    repeat' ((fail_if_success at_builtin); (first | go_skip | go_guarded | go_step))
                    go_roundw
                    case rel => exact ⟨0 + 1, by omega, by first | rfl | go_num, hbq, hp3.out⟩
                    case measure => (try go_num); (try simp [intOf]); (try omega)
                  | succ j =>
                    have hd : decide ((0 : Int) < ((j + 1 : Nat) : Int)) = true := decide_eq_true (by omega)
                    have hd2 : (0 : Int) < (j : Int) + 1 := by omega
                    have j1 : IntKind.i64.wrap (((j + 1 : Nat) : Int) - 1) = (j : Int) := by rw [show ((j + 1 : Nat) : Int) - 1 = (j : Int) from by omega]; exact IntWalk.i64_in _ (by omega)
                    have j4 : IntKind.i64.wrap ((j : Int) + 1 - 1) = (j : Int) := by rw [show (j : Int) + 1 - 1 = (j : Int) from by omega]; exact IntWalk.i64_in _ (by omega)
                    have j2 : (0 : Int) ≤ (j : Int) := by omega
                    have j3 : (j : Int) < (n : Int) := by omega
                    obtain ⟨y, hy⟩ : ∃ y, l[j]? = some y := ⟨_, List.getElem?_eq_getElem (by have := hn.out; omega)⟩
                    have hla : lastAt l (j + 1) = y.at_ := by show (l[j]?.getD zD).at_ = _; rw [hy]; rfl
                    rw [hla] at hp
                    obtain ⟨g2, o2, hA2, hg2, hS⟩ := dep_at h.rd hy
                    injection hA2 with hA2
                    injection hA2 with a1 a2
                    subst a1 a2
                    have d3 := (hS.below hg hbz).e3
                    clear hS hy hla
                    by_cases ha4 : x.at_ < y.at_
                    · have hd4 : decide (x.at_ < y.at_) = true := decide_eq_true ha4
                      have hr : histF l = 22 := by
                        rw [depO_order hok ha3.out ha4, if_neg (by decide)] at hp
                        exact hp
                      clear hp
                      replace hr := Lib.hid hr
                      repeat' ((fail_if_success at_builtin); (first | go_skip | go_guarded | go_step))
                      go_quiet (fail)
                      have hbq := hbz.trans ((Below.drewN w2 nq).mono hbz.size)
                      generalize w2.drewN nq = w3 at *
                      repeat' ((fail_if_success at_builtin); (first | go_skip | go_guarded | go_step))
                      go_ret
                      exact ⟨by rw [hr.out]; rfl, hbq⟩
                    · have hd4 : decide (x.at_ < y.at_) = false := decide_eq_false ha4
                      have hp3 : depsF 0 l = depsF (lastAt l (j + 1 + 1)) (l.drop (j + 1 + 1)) := by
                        rw [depO_ok hok ha3.out ha4, if_pos rfl, hm.out] at hp
                        exact hp
                      clear hp
                      replace hp3 := Lib.hid hp3
                      repeat' ((fail_if_success at_builtin); (first | go_skip | go_guarded | go_step))
                      go_quiet (fail)
                      have hbq := hbz.trans ((Below.drewN w2 nq).mono hbz.size)
                      generalize w2.drewN nq = w3 at *
                      repeat' ((fail_if_success at_builtin); (first | go_skip | go_guarded | go_step))
                      go_roundw
                      case rel => exact ⟨j + 1 + 1, by omega, by first | rfl | go_num, hbq, hp3.out⟩
                      case measure => (try go_num); (try simp [intOf]); (try omega)
            · have f2 : (x.st != 2) = true := by simpa using hs2
              have hno : (properR x.ref && (x.st == 1 || x.st == 2)) = false := by
                have a1 : (x.st == 1) = false := by simpa using hs1
                have a2 : (x.st == 2) = false := by simpa using hs2
                rw [a1, a2]; exact Bool.and_false _
              clear hs1 hs2
              have hr : histF l = 1 := by
                rw [depO_bad hno, if_neg (by decide)] at hp
                exact hp
              clear hp hno
              replace hr := Lib.hid hr
              repeat' ((fail_if_success at_builtin); (first | go_skip | go_guarded | go_step))
              go_ret
              exact ⟨by rw [hr.out]; rfl, hbz⟩
      · have i1 : ¬ (i : Int) < (n : Int) := by omega
        have hr : histF l = 0 := by
          rw [deps_end (by rw [hn.out]; omega), ← hm.out] at hp
          exact hp
        clear hp
        replace hr := Lib.hid hr
        repeat' ((fail_if_success at_builtin); (first | go_skip | go_guarded | go_step))
        go_ret
        exact ⟨by rw [hr.out]; rfl, hb⟩
end Go.Proofs.YtennhjkhjplmoaaDoor
