/- Deploy: the document's Small, Equal, Same. -/
import Derived.Test.YtennhjkhjplmoaaDoorDpY
import Derived.Test.YtennhjkhjplmoaaDoorHk
namespace Go.Proofs.YtennhjkhjplmoaaDoor
open Go.RowKit
def smallE (x : Env) : Bool := decide (x.name.size ≤ 200) && (decide (x.waiting.length ≤ 20) && decide (x.history.length ≤ 70))
def smallL (l : List Env) : Bool := decide (l.length ≤ 12) && l.all smallE
theorem small_each {l : List Env} (h : smallL l = true) : l.length ≤ 12 ∧ ∀ x ∈ l, x.name.size ≤ 200 ∧ x.waiting.length ≤ 20 ∧ x.history.length ≤ 70 := by
  unfold smallL smallE at h
  simp only [Bool.and_eq_true, decide_eq_true_eq, List.all_eq_true] at h
  exact h
theorem small_envs {l : List Env} {w : World} {A : Option Addr} {n c : Nat} (h : smallL l = true) (hr : RSlice rEnv 5 w (fun b => b < w.heap.size) A n c l) : Envs w A n c l := by
  obtain ⟨h1, h2⟩ := small_each h
  exact ⟨hr, by omega, fun x hx => by obtain ⟨a, b, d⟩ := h2 x hx; exact ⟨by omega, by omega, by omega⟩⟩
theorem not_small {l : List Env} {x : Env} (hx : x ∈ l) (h : smallE x = false) : smallL l = false := by
  unfold smallL
  rw [Bool.and_eq_false_iff]
  exact .inr (by rw [List.all_eq_false]; exact ⟨x, hx, by rw [h]; simp⟩)
set_option maxRecDepth 100000 in
set_option maxHeartbeats 2000000 in
theorem small_any (l : List Env) (A : Option Addr) (n c : Nat) (w : World) (h : RSlice rEnv 5 w (fun b => b < w.heap.size) A n c l) :
    Calls Tryd.prog 9 #[.slice A n c] w fun e w' => e = .returned (.bool (smallL l)) ∧ w' = w := by
  go_enter Tryd.func9, Tryd.ntmps9
  have hn := h.1
  by_cases h12 : 12 < n
  · have h12i : (12 : Int) < (n : Int) := by omega
    have hr : smallL l = false := by unfold smallL; rw [decide_eq_false (by omega)]; rfl
    replace hr := Lib.hid hr
    replace hn := Lib.hid hn
    repeat' ((fail_if_success at_builtin); (first | go_skip | go_guarded | go_step))
    go_ret
    exact ⟨by rw [hr.out]; rfl, rfl⟩
  · have h12i : ¬ (12 : Int) < (n : Int) := by omega
    replace hn := Lib.hid hn
    repeat' ((fail_if_success at_builtin); (first | go_skip | go_guarded | go_step))
    go_loopw [3] (fun u3 wr => ∃ i : Nat, i ≤ n ∧ u3 = .int .i64 (i : Int) ∧ wr = w ∧ (l.take i).all smallE = true) (fun u3 _ => n - (intOf u3).toNat)
    case atStart => exact ⟨0, by omega, rfl, rfl, by simp⟩
    case round =>
      obtain ⟨i, hi, rfl, rfl, hp⟩ := hrel
      replace hp := Lib.hid hp
      have i0 : (0 : Int) ≤ (i : Int) := by omega
      have i2 : IntKind.i64.wrap ((i : Int) + 1) = (i : Int) + 1 := IntWalk.i64_in _ (by omega)
      by_cases hlt : i < n
      · have i1 : (i : Int) < (n : Int) := by omega
        obtain ⟨x, hx⟩ : ∃ x, l[i]? = some x := ⟨_, List.getElem?_eq_getElem (by have := hn.out; omega)⟩
        obtain ⟨g, o, A1, c1, A2, c2, rfl, hg, hS⟩ := env_at h hx
        have e0 := hS.e0
        have e3 := hS.e3
        have e4 := hS.e4
        have hm := List.mem_of_getElem? hx
        have hsm : smallE x = (decide (x.name.size ≤ 200) && (decide (x.waiting.length ≤ 20) && decide (x.history.length ≤ 70))) := rfl
        clear hS
        by_cases a1 : 200 < x.name.size
        · have b1 : (200 : Int) < (x.name.size : Int) := by omega
          have hr := not_small hm (by rw [hsm, decide_eq_false (by omega)]; rfl)
          replace hr := Lib.hid hr
          clear hx hsm
          repeat' ((fail_if_success at_builtin); (first | go_skip | go_guarded | go_step))
          go_ret
          exact ⟨by rw [hr.out]; rfl, rfl⟩
        · have b1 : ¬ (200 : Int) < (x.name.size : Int) := by omega
          by_cases a2 : 20 < x.waiting.length
          · have b2 : (20 : Int) < (x.waiting.length : Int) := by omega
            have hr := not_small hm (by rw [hsm, decide_eq_false (p := x.waiting.length ≤ 20) (by omega), Bool.false_and, Bool.and_false])
            replace hr := Lib.hid hr
            clear hx hsm
            repeat' ((fail_if_success at_builtin); (first | go_skip | go_guarded | go_step))
            go_ret
            exact ⟨by rw [hr.out]; rfl, rfl⟩
          · have b2 : ¬ (20 : Int) < (x.waiting.length : Int) := by omega
            by_cases a3 : 70 < x.history.length
            · have b3 : (70 : Int) < (x.history.length : Int) := by omega
              have hr := not_small hm (by rw [hsm, decide_eq_false (p := x.history.length ≤ 70) (by omega), Bool.and_false, Bool.and_false])
              replace hr := Lib.hid hr
              clear hx hsm
              repeat' ((fail_if_success at_builtin); (first | go_skip | go_guarded | go_step))
              go_ret
              exact ⟨by rw [hr.out]; rfl, rfl⟩
            · have b3 : ¬ (70 : Int) < (x.history.length : Int) := by omega
              have hsx : smallE x = true := by rw [hsm, decide_eq_true (by omega), decide_eq_true (by omega), decide_eq_true (by omega)]; rfl
              have hnx : (l.take (i + 1)).all smallE = true := by rw [List.take_add_one, hx, List.all_append, hp.out]; simp [hsx]
              replace hnx := Lib.hid hnx
              clear hx hsm hsx
              repeat' ((fail_if_success at_builtin); (first | go_skip | go_guarded | go_step))
              go_roundw
              case rel => exact ⟨i + 1, by omega, by first | rfl | go_num, by first | rfl | trivial, hnx.out⟩
              case measure => (try go_num); (try simp [intOf]); (try omega)
      · have i1 : ¬ (i : Int) < (n : Int) := by omega
        have hr : smallL l = true := by
          have := hp.out
          rw [List.take_of_length_le (by have := hn.out; omega)] at this
          unfold smallL
          rw [this, decide_eq_true (by have := hn.out; omega)]
          rfl
        replace hr := Lib.hid hr
        repeat' ((fail_if_success at_builtin); (first | go_skip | go_guarded | go_step))
        go_ret
        exact ⟨by rw [hr.out]; rfl, rfl⟩
theorem eqD_self (a : Dep) : eqD a a = true := eqD_iff.2 rfl
set_option maxRecDepth 100000 in
set_option maxHeartbeats 2000000 in
theorem equal_same (x : Env) (A1 : Option Addr) (c1 : Nat) (A2 : Option Addr) (c2 : Nat) (B1 : Option Addr) (d1 : Nat) (B2 : Option Addr) (d2 : Nat) (w : World) (hx : EnvW x)
    (a1 : RSlice rRef 2 w (fun b => b < w.heap.size) A1 x.waiting.length c1 x.waiting) (a2 : RSlice rDep 5 w (fun b => b < w.heap.size) A2 x.history.length c2 x.history)
    (b1 : RSlice rRef 2 w (fun b => b < w.heap.size) B1 x.waiting.length d1 x.waiting) (b2 : RSlice rDep 5 w (fun b => b < w.heap.size) B2 x.history.length d2 x.history) :
    Calls Tryd.prog 51 #[.agg #[.string x.name, .string x.holder.run, .string x.holder.job, .slice A1 x.waiting.length c1, .slice A2 x.history.length c2], .agg #[.string x.name, .string x.holder.run, .string x.holder.job, .slice B1 x.waiting.length d1, .slice B2 x.history.length d2]] w fun e w' => e = .returned (.bool true) ∧ Below w.heap.size w w' := by
  obtain ⟨w1, hw1⟩ : ∃ w1, w1 = (w.alloc (.cells #[.string x.name, .string x.holder.run, .string x.holder.job, .slice A1 x.waiting.length c1, .slice A2 x.history.length c2] envT)).alloc (.cells #[.string x.name, .string x.holder.run, .string x.holder.job, .slice B1 x.waiting.length d1, .slice B2 x.history.length d2] envT) := ⟨_, rfl⟩
  have hb0 : Below w.heap.size w w1 := by rw [hw1]; exact ((Below.refl _ _).alloc (Nat.le_refl _) _).alloc (by simp) _
  have z1 : w.heap.size + 1 < w1.heap.size := by rw [hw1]; simp
  have z0 : w.heap.size < w1.heap.size := by omega
  have p0 : w1.cell? ⟨w.heap.size, 0, none⟩ = some (.string x.name) := by
    rw [hw1]
    exact (((Below.refl (w.alloc (.cells #[.string x.name, .string x.holder.run, .string x.holder.job, .slice A1 x.waiting.length c1, .slice A2 x.history.length c2] envT)).heap.size (w.alloc (.cells #[.string x.name, .string x.holder.run, .string x.holder.job, .slice A1 x.waiting.length c1, .slice A2 x.history.length c2] envT))).alloc (Nat.le_refl _) _).cell (p := ⟨w.heap.size, 0, none⟩) (by simp)).trans ((CellsAt.new w #[.string x.name, .string x.holder.run, .string x.holder.job, .slice A1 x.waiting.length c1, .slice A2 x.history.length c2] envT).cell 0 _ rfl)
  have p1 : w1.cell? ⟨w.heap.size, 1, none⟩ = some (.string x.holder.run) := by
    rw [hw1]
    exact (((Below.refl (w.alloc (.cells #[.string x.name, .string x.holder.run, .string x.holder.job, .slice A1 x.waiting.length c1, .slice A2 x.history.length c2] envT)).heap.size (w.alloc (.cells #[.string x.name, .string x.holder.run, .string x.holder.job, .slice A1 x.waiting.length c1, .slice A2 x.history.length c2] envT))).alloc (Nat.le_refl _) _).cell (p := ⟨w.heap.size, 1, none⟩) (by simp)).trans ((CellsAt.new w #[.string x.name, .string x.holder.run, .string x.holder.job, .slice A1 x.waiting.length c1, .slice A2 x.history.length c2] envT).cell 1 _ rfl)
  have p2 : w1.cell? ⟨w.heap.size, 2, none⟩ = some (.string x.holder.job) := by
    rw [hw1]
    exact (((Below.refl (w.alloc (.cells #[.string x.name, .string x.holder.run, .string x.holder.job, .slice A1 x.waiting.length c1, .slice A2 x.history.length c2] envT)).heap.size (w.alloc (.cells #[.string x.name, .string x.holder.run, .string x.holder.job, .slice A1 x.waiting.length c1, .slice A2 x.history.length c2] envT))).alloc (Nat.le_refl _) _).cell (p := ⟨w.heap.size, 2, none⟩) (by simp)).trans ((CellsAt.new w #[.string x.name, .string x.holder.run, .string x.holder.job, .slice A1 x.waiting.length c1, .slice A2 x.history.length c2] envT).cell 2 _ rfl)
  have p3 : w1.cell? ⟨w.heap.size, 3, none⟩ = some (.slice A1 x.waiting.length c1) := by
    rw [hw1]
    exact (((Below.refl (w.alloc (.cells #[.string x.name, .string x.holder.run, .string x.holder.job, .slice A1 x.waiting.length c1, .slice A2 x.history.length c2] envT)).heap.size (w.alloc (.cells #[.string x.name, .string x.holder.run, .string x.holder.job, .slice A1 x.waiting.length c1, .slice A2 x.history.length c2] envT))).alloc (Nat.le_refl _) _).cell (p := ⟨w.heap.size, 3, none⟩) (by simp)).trans ((CellsAt.new w #[.string x.name, .string x.holder.run, .string x.holder.job, .slice A1 x.waiting.length c1, .slice A2 x.history.length c2] envT).cell 3 _ rfl)
  have p4 : w1.cell? ⟨w.heap.size, 4, none⟩ = some (.slice A2 x.history.length c2) := by
    rw [hw1]
    exact (((Below.refl (w.alloc (.cells #[.string x.name, .string x.holder.run, .string x.holder.job, .slice A1 x.waiting.length c1, .slice A2 x.history.length c2] envT)).heap.size (w.alloc (.cells #[.string x.name, .string x.holder.run, .string x.holder.job, .slice A1 x.waiting.length c1, .slice A2 x.history.length c2] envT))).alloc (Nat.le_refl _) _).cell (p := ⟨w.heap.size, 4, none⟩) (by simp)).trans ((CellsAt.new w #[.string x.name, .string x.holder.run, .string x.holder.job, .slice A1 x.waiting.length c1, .slice A2 x.history.length c2] envT).cell 4 _ rfl)
  have r0 : w1.cell? ⟨w.heap.size + 1, 0, none⟩ = some (.string x.name) := by
    rw [hw1]; simp
  have r1 : w1.cell? ⟨w.heap.size + 1, 1, none⟩ = some (.string x.holder.run) := by
    rw [hw1]; simp
  have r2 : w1.cell? ⟨w.heap.size + 1, 2, none⟩ = some (.string x.holder.job) := by
    rw [hw1]; simp
  have r3 : w1.cell? ⟨w.heap.size + 1, 3, none⟩ = some (.slice B1 x.waiting.length d1) := by
    rw [hw1]; simp
  have r4 : w1.cell? ⟨w.heap.size + 1, 4, none⟩ = some (.slice B2 x.history.length d2) := by
    rw [hw1]; simp
  go_enter Tryd.func51, Tryd.ntmps51
  go_upto_region 1 with (fail)
  rw [← hw1]
  clear hw1
  have hwl := hx.wait
  have hhl := hx.hist
  have qE1 := qE_R x.holder x.holder
  simp only [eqR_self] at qE1
  repeat' ((fail_if_success at_builtin); (first | ((with_reducible show wpList _ _ _ _ _ _); first | refine wpList_eqS rfl rfl rfl rfl (by first | exact qE1 _ | exact qE2 _ | exact qE3 _ | exact qE4 _) (by kernel_rfl) ?_ | refine wpList_neS rfl rfl rfl rfl (by first | exact qE1 _ | exact qE2 _ | exact qE3 _ | exact qE4 _) (by kernel_rfl) ?_) | go_skip | go_guarded | go_step))
  go_loopw [5] (fun u5 wr => ∃ i : Nat, i ≤ x.waiting.length ∧ u5 = .int .i64 (i : Int) ∧ Below w1.heap.size w1 wr) (fun u5 _ => x.waiting.length - (intOf u5).toNat)
  case atStart => exact ⟨0, by omega, rfl, Below.refl _ _⟩
  case round =>
    obtain ⟨i, hi, rfl, hb⟩ := hrel
    have e3 := (hb.cell (p := ⟨w.heap.size, 3, none⟩) z0).trans p3
    have f3 := (hb.cell (p := ⟨w.heap.size + 1, 3, none⟩) z1).trans r3
    have i0 : (0 : Int) ≤ (i : Int) := by omega
    have i2 : IntKind.i64.wrap ((i : Int) + 1) = (i : Int) + 1 := IntWalk.i64_in _ (by omega)
    have hbz := hb0.trans (hb.mono hb0.size)
    by_cases hlt : i < x.waiting.length
    · have i1 : (i : Int) < (x.waiting.length : Int) := by omega
      obtain ⟨y, hy⟩ : ∃ y, x.waiting[i]? = some y := ⟨_, List.getElem?_eq_getElem hlt⟩
      obtain ⟨g, o, hA1, hg, hS⟩ := ref_at a1 hy
      obtain ⟨g', o', hB1, hg', hS'⟩ := ref_at b1 hy
      subst hA1 hB1
      have g0 := (hbz.cell (p := ⟨g, _, none⟩) hg).trans hS.1
      have g1 := (hbz.cell (p := ⟨g, _, none⟩) hg).trans hS.2
      have k0 := (hbz.cell (p := ⟨g', _, none⟩) hg').trans hS'.1
      have k1 := (hbz.cell (p := ⟨g', _, none⟩) hg').trans hS'.2
      have hq := run_neR y y
      simp only [eqR_self, Bool.not_true] at hq
      clear hS hS' hy
      have hbe : ∀ q, Below w1.heap.size w1 (wr.drewN q) := fun q => hb.trans (Below.mono (Below.drewN wr q) hb.size)
      repeat' ((fail_if_success at_builtin); (first | go_skip | go_guarded | go_step))
      go_quiet (fail)
      repeat' ((fail_if_success at_builtin); (first | go_skip | go_guarded | go_step))
      go_roundw
      case rel => exact ⟨i + 1, by omega, by first | rfl | go_num, hbe nq⟩
      case measure => (try go_num); (try simp [intOf]); (try omega)
    · have i1 : ¬ (i : Int) < (x.waiting.length : Int) := by omega
      repeat' ((fail_if_success at_builtin); (first | go_skip | go_guarded | go_step))
      obtain ⟨wo, hwo⟩ : ∃ wo, wo = wr := ⟨wr, rfl⟩
      subst hwo
      have hb0l := hb
      clear hb hbz hi hlt i0 i1 i2 e3 f3
      go_loopw [6] (fun u5 wr => ∃ i : Nat, i ≤ x.history.length ∧ u5 = .int .i64 (i : Int) ∧ Below w1.heap.size w1 wr) (fun u5 _ => x.history.length - (intOf u5).toNat)
      case atStart => exact ⟨0, by omega, rfl, hb0l⟩
      case round =>
        obtain ⟨i, hi, rfl, hb⟩ := hrel
        have e4 := (hb.cell (p := ⟨w.heap.size, 4, none⟩) z0).trans p4
        have f4 := (hb.cell (p := ⟨w.heap.size + 1, 4, none⟩) z1).trans r4
        have i0 : (0 : Int) ≤ (i : Int) := by omega
        have i2 : IntKind.i64.wrap ((i : Int) + 1) = (i : Int) + 1 := IntWalk.i64_in _ (by omega)
        have hbz := hb0.trans (hb.mono hb0.size)
        by_cases hlt : i < x.history.length
        · have i1 : (i : Int) < (x.history.length : Int) := by omega
          obtain ⟨y, hy⟩ : ∃ y, x.history[i]? = some y := ⟨_, List.getElem?_eq_getElem hlt⟩
          obtain ⟨g, o, hA1, hg, hS⟩ := dep_at a2 hy
          obtain ⟨g', o', hB1, hg', hS'⟩ := dep_at b2 hy
          subst hA1 hB1
          have hT := hS.below hg hbz
          have hT' := hS'.below hg' hbz
          have g0 := hT.e0
          have k0 := hT'.e0
          have g1 := hT.e1
          have k1 := hT'.e1
          have g2 := hT.e2
          have k2 := hT'.e2
          have g3 := hT.e3
          have k3 := hT'.e3
          have g4 := hT.e4
          have k4 := hT'.e4
          have hq := run_neD y y
          simp only [eqD_self, Bool.not_true] at hq
          clear hT hT'
          clear hS hS' hy
          have hbe : ∀ q, Below w1.heap.size w1 (wr.drewN q) := fun q => hb.trans (Below.mono (Below.drewN wr q) hb.size)
          repeat' ((fail_if_success at_builtin); (first | go_skip | go_guarded | go_step))
          go_quiet (fail)
          repeat' ((fail_if_success at_builtin); (first | go_skip | go_guarded | go_step))
          go_roundw
          case rel => exact ⟨i + 1, by omega, by first | rfl | go_num, hbe nq⟩
          case measure => (try go_num); (try simp [intOf]); (try omega)
        · have i1 : ¬ (i : Int) < (x.history.length : Int) := by omega
          repeat' ((fail_if_success at_builtin); (first | go_skip | go_guarded | go_step))
          go_ret
          exact ⟨rfl, hbz⟩
set_option maxRecDepth 100000 in
set_option maxHeartbeats 2000000 in
theorem same_same (l : List Env) (A : Option Addr) (n c : Nat) (B : Option Addr) (m d : Nat) (w : World) (h : Envs w A n c l) (h' : Envs w B m d l) :
    Calls Tryd.prog 15 #[.slice A n c, .slice B m d] w fun e w' => e = .returned (.bool true) ∧ Below w.heap.size w w' := by
  have hnm : m = n := by rw [← h.n, ← h'.n]
  subst hnm
  go_enter Tryd.func15, Tryd.ntmps15
  have hn := h.n
  have hl := h.len
  have hW := h.each
  replace hn := Lib.hid hn
  repeat' ((fail_if_success at_builtin); (first | go_skip | go_guarded | go_step))
  go_loopw [5] (fun u5 wr => ∃ i : Nat, i ≤ m ∧ u5 = .int .i64 (i : Int) ∧ Below w.heap.size w wr) (fun u5 _ => m - (intOf u5).toNat)
  case atStart => exact ⟨0, by omega, rfl, Below.refl _ _⟩
  case round =>
    obtain ⟨i, hi, rfl, hb⟩ := hrel
    have i0 : (0 : Int) ≤ (i : Int) := by omega
    have i2 : IntKind.i64.wrap ((i : Int) + 1) = (i : Int) + 1 := IntWalk.i64_in _ (by have := hn.out; omega)
    by_cases hlt : i < m
    · have i1 : (i : Int) < (m : Int) := by omega
      obtain ⟨x, hx⟩ : ∃ x, l[i]? = some x := ⟨_, List.getElem?_eq_getElem (by have := hn.out; omega)⟩
      have hxW := hW x (List.mem_of_getElem? hx)
      obtain ⟨g, o, A1, c1, A2, c2, hA, hg, hS⟩ := env_at h.rd hx
      obtain ⟨g', o', B1, d1, B2, d2, hB, hg', hS'⟩ := env_at h'.rd hx
      subst hA hB
      have hT := hS.below hg hb
      have hT' := hS'.below hg' hb
      have sz : ∀ b, b < w.heap.size → b < wr.heap.size := fun _ hp => Nat.lt_of_lt_of_le hp hb.size
      have e0 := hT.e0
      have f0 := hT'.e0
      have e1 := hT.e1
      have f1 := hT'.e1
      have e2 := hT.e2
      have f2 := hT'.e2
      have e3 := hT.e3
      have f3 := hT'.e3
      have e4 := hT.e4
      have f4 := hT'.e4
      clear hx
      have hgr : g < wr.heap.size := Nat.lt_of_lt_of_le hg hb.size
      have hgr' : g' < wr.heap.size := Nat.lt_of_lt_of_le hg' hb.size
      have hS0 : (Below wr.heap.size wr wr ∧ wr.cell? ⟨g, o + i * 5, none⟩ = some (.string x.name) ∧ wr.cell? ⟨g, o + i * 5 + 1, none⟩ = some (.string x.holder.run) ∧ wr.cell? ⟨g, o + i * 5 + 2, none⟩ = some (.string x.holder.job) ∧ wr.cell? ⟨g, o + i * 5 + 3, none⟩ = some (.slice A1 x.waiting.length c1) ∧ wr.cell? ⟨g, o + i * 5 + 4, none⟩ = some (.slice A2 x.history.length c2) ∧ wr.cell? ⟨g', o' + i * 5, none⟩ = some (.string x.name) ∧ wr.cell? ⟨g', o' + i * 5 + 1, none⟩ = some (.string x.holder.run) ∧ wr.cell? ⟨g', o' + i * 5 + 2, none⟩ = some (.string x.holder.job) ∧ wr.cell? ⟨g', o' + i * 5 + 3, none⟩ = some (.slice B1 x.waiting.length d1) ∧ wr.cell? ⟨g', o' + i * 5 + 4, none⟩ = some (.slice B2 x.history.length d2)) := ⟨Below.refl _ _, e0, e1, e2, e3, e4, f0, f1, f2, f3, f4⟩
      have keepS : ∀ v1 v2 : World, (Below wr.heap.size wr v1 ∧ v1.cell? ⟨g, o + i * 5, none⟩ = some (.string x.name) ∧ v1.cell? ⟨g, o + i * 5 + 1, none⟩ = some (.string x.holder.run) ∧ v1.cell? ⟨g, o + i * 5 + 2, none⟩ = some (.string x.holder.job) ∧ v1.cell? ⟨g, o + i * 5 + 3, none⟩ = some (.slice A1 x.waiting.length c1) ∧ v1.cell? ⟨g, o + i * 5 + 4, none⟩ = some (.slice A2 x.history.length c2) ∧ v1.cell? ⟨g', o' + i * 5, none⟩ = some (.string x.name) ∧ v1.cell? ⟨g', o' + i * 5 + 1, none⟩ = some (.string x.holder.run) ∧ v1.cell? ⟨g', o' + i * 5 + 2, none⟩ = some (.string x.holder.job) ∧ v1.cell? ⟨g', o' + i * 5 + 3, none⟩ = some (.slice B1 x.waiting.length d1) ∧ v1.cell? ⟨g', o' + i * 5 + 4, none⟩ = some (.slice B2 x.history.length d2)) → Below v1.heap.size v1 v2 → (Below wr.heap.size wr v2 ∧ v2.cell? ⟨g, o + i * 5, none⟩ = some (.string x.name) ∧ v2.cell? ⟨g, o + i * 5 + 1, none⟩ = some (.string x.holder.run) ∧ v2.cell? ⟨g, o + i * 5 + 2, none⟩ = some (.string x.holder.job) ∧ v2.cell? ⟨g, o + i * 5 + 3, none⟩ = some (.slice A1 x.waiting.length c1) ∧ v2.cell? ⟨g, o + i * 5 + 4, none⟩ = some (.slice A2 x.history.length c2) ∧ v2.cell? ⟨g', o' + i * 5, none⟩ = some (.string x.name) ∧ v2.cell? ⟨g', o' + i * 5 + 1, none⟩ = some (.string x.holder.run) ∧ v2.cell? ⟨g', o' + i * 5 + 2, none⟩ = some (.string x.holder.job) ∧ v2.cell? ⟨g', o' + i * 5 + 3, none⟩ = some (.slice B1 x.waiting.length d1) ∧ v2.cell? ⟨g', o' + i * 5 + 4, none⟩ = some (.slice B2 x.history.length d2)) := fun v1 v2 h hb => ⟨h.1.trans (hb.mono h.1.size), (hb.cell (p := ⟨g, _, none⟩) (Nat.lt_of_lt_of_le hgr h.1.size)).trans h.2.1, (hb.cell (p := ⟨g, _, none⟩) (Nat.lt_of_lt_of_le hgr h.1.size)).trans h.2.2.1, (hb.cell (p := ⟨g, _, none⟩) (Nat.lt_of_lt_of_le hgr h.1.size)).trans h.2.2.2.1, (hb.cell (p := ⟨g, _, none⟩) (Nat.lt_of_lt_of_le hgr h.1.size)).trans h.2.2.2.2.1, (hb.cell (p := ⟨g, _, none⟩) (Nat.lt_of_lt_of_le hgr h.1.size)).trans h.2.2.2.2.2.1, (hb.cell (p := ⟨g', _, none⟩) (Nat.lt_of_lt_of_le hgr' h.1.size)).trans h.2.2.2.2.2.2.1, (hb.cell (p := ⟨g', _, none⟩) (Nat.lt_of_lt_of_le hgr' h.1.size)).trans h.2.2.2.2.2.2.2.1, (hb.cell (p := ⟨g', _, none⟩) (Nat.lt_of_lt_of_le hgr' h.1.size)).trans h.2.2.2.2.2.2.2.2.1, (hb.cell (p := ⟨g', _, none⟩) (Nat.lt_of_lt_of_le hgr' h.1.size)).trans h.2.2.2.2.2.2.2.2.2.1, (hb.cell (p := ⟨g', _, none⟩) (Nat.lt_of_lt_of_le hgr' h.1.size)).trans h.2.2.2.2.2.2.2.2.2.2⟩
      have hS1 : (Below wr.heap.size wr wr.drew ∧ wr.drew.cell? ⟨g, o + i * 5, none⟩ = some (.string x.name) ∧ wr.drew.cell? ⟨g, o + i * 5 + 1, none⟩ = some (.string x.holder.run) ∧ wr.drew.cell? ⟨g, o + i * 5 + 2, none⟩ = some (.string x.holder.job) ∧ wr.drew.cell? ⟨g, o + i * 5 + 3, none⟩ = some (.slice A1 x.waiting.length c1) ∧ wr.drew.cell? ⟨g, o + i * 5 + 4, none⟩ = some (.slice A2 x.history.length c2) ∧ wr.drew.cell? ⟨g', o' + i * 5, none⟩ = some (.string x.name) ∧ wr.drew.cell? ⟨g', o' + i * 5 + 1, none⟩ = some (.string x.holder.run) ∧ wr.drew.cell? ⟨g', o' + i * 5 + 2, none⟩ = some (.string x.holder.job) ∧ wr.drew.cell? ⟨g', o' + i * 5 + 3, none⟩ = some (.slice B1 x.waiting.length d1) ∧ wr.drew.cell? ⟨g', o' + i * 5 + 4, none⟩ = some (.slice B2 x.history.length d2)) := keepS _ _ hS0 ((Below.refl _ _).drew)
      replace keepS := Lib.hid keepS
      clear hS0
      go_upto_region 6 with (fail)
      refine wp_region_held_drew (S := fun w' => Below wr.heap.size wr w' ∧ w'.cell? ⟨g, o + i * 5, none⟩ = some (.string x.name) ∧ w'.cell? ⟨g, o + i * 5 + 1, none⟩ = some (.string x.holder.run) ∧ w'.cell? ⟨g, o + i * 5 + 2, none⟩ = some (.string x.holder.job) ∧ w'.cell? ⟨g, o + i * 5 + 3, none⟩ = some (.slice A1 x.waiting.length c1) ∧ w'.cell? ⟨g, o + i * 5 + 4, none⟩ = some (.slice A2 x.history.length c2) ∧ w'.cell? ⟨g', o' + i * 5, none⟩ = some (.string x.name) ∧ w'.cell? ⟨g', o' + i * 5 + 1, none⟩ = some (.string x.holder.run) ∧ w'.cell? ⟨g', o' + i * 5 + 2, none⟩ = some (.string x.holder.job) ∧ w'.cell? ⟨g', o' + i * 5 + 3, none⟩ = some (.slice B1 x.waiting.length d1) ∧ w'.cell? ⟨g', o' + i * 5 + 4, none⟩ = some (.slice B2 x.history.length d2)) (by kernel_rfl) ?_ (fun hHeld => ?_)
      · (try dsimp only)
        exact hS1
      refine tkY 0 (v := ?v1) rfl (.inl ⟨by rfl, ?hy1⟩) ?hr1
      case hy1 => (intro w hSw; (try dsimp only at hSw); go_simp; try with_reducible rfl)
      simp only [Act.put, List.getElem_toArray, List.getElem_cons_zero, List.setIfInBounds_toArray, List.set_cons_zero, List.set_cons_succ]
      refine tkY 1 (v := ?v2) rfl (.inl ⟨by rfl, ?hy2⟩) ?hr2
      case hy2 => (intro w hSw; (try dsimp only at hSw); go_simp; try with_reducible rfl)
      simp only [Act.put, List.getElem_toArray, List.getElem_cons_zero, List.getElem_cons_succ, List.setIfInBounds_toArray, List.set_cons_zero, List.set_cons_succ]
      refine tkY 2 (v := ?v3) rfl (.inl ⟨by rfl, ?hy3⟩) ?hr3
      case hy3 => (intro w hSw; (try dsimp only at hSw); go_simp; try with_reducible rfl)
      simp only [Act.put, List.getElem_toArray, List.getElem_cons_zero, List.getElem_cons_succ, List.setIfInBounds_toArray, List.set_cons_zero, List.set_cons_succ]
      refine tkY 3 (v := ?v4) rfl (.inl ⟨by rfl, ?hy4⟩) ?hr4
      case hy4 => (intro w hSw; (try dsimp only at hSw); go_simp; try with_reducible rfl)
      simp only [Act.put, List.getElem_toArray, List.getElem_cons_zero, List.getElem_cons_succ, List.setIfInBounds_toArray, List.set_cons_zero, List.set_cons_succ]
      refine tkY 4 (v := ?v5) rfl (.inl ⟨by rfl, ?hy5⟩) ?hr5
      case hy5 => (intro w hSw; (try dsimp only at hSw); go_simp; try with_reducible rfl)
      simp only [Act.put, List.getElem_toArray, List.getElem_cons_zero, List.getElem_cons_succ, List.setIfInBounds_toArray, List.set_cons_zero, List.set_cons_succ]
      refine tkY 5 (v := ?v6) rfl (.inl ⟨by rfl, ?hy6⟩) ?hr6
      case hy6 => (intro w hSw; (try dsimp only at hSw); go_simp; try with_reducible rfl)
      simp only [Act.put, List.getElem_toArray, List.getElem_cons_zero, List.getElem_cons_succ, List.setIfInBounds_toArray, List.set_cons_zero, List.set_cons_succ]
      refine tkY 6 (v := ?v7) rfl (.inl ⟨by rfl, ?hy7⟩) ?hr7
      case hy7 => (intro w hSw; (try dsimp only at hSw); go_simp; try with_reducible rfl)
      simp only [Act.put, List.getElem_toArray, List.getElem_cons_zero, List.getElem_cons_succ, List.setIfInBounds_toArray, List.set_cons_zero, List.set_cons_succ]
      refine tkY 7 (v := ?v8) rfl (.inl ⟨by rfl, ?hy8⟩) ?hr8
      case hy8 => (intro w hSw; (try dsimp only at hSw); go_simp; try with_reducible rfl)
      simp only [Act.put, List.getElem_toArray, List.getElem_cons_zero, List.getElem_cons_succ, List.setIfInBounds_toArray, List.set_cons_zero, List.set_cons_succ]
      refine wpAnyH_ready (rs := [8]) (by kernel_rfl) (by simp) ?_
      refine AllReadyH.cons rfl (fun K hK => ?_) AllReadyH.nil
      go_simp
      go_at_call 51
      have hbh := hb.trans (hHeld.1.mono hb.size)
      have CJ := equal_same x A1 c1 A2 c2 B1 d1 B2 d2 _ hxW ((hS.wait.below rRef_ok hbh).more rRef_ok (fun _ hp => Nat.lt_of_lt_of_le hp hbh.size)) ((hS.hist.below rDep_ok hbh).more rDep_ok (fun _ hp => Nat.lt_of_lt_of_le hp hbh.size)) ((hS'.wait.below rRef_ok hbh).more rRef_ok (fun _ hp => Nat.lt_of_lt_of_le hp hbh.size)) ((hS'.hist.below rDep_ok hbh).more rDep_ok (fun _ hp => Nat.lt_of_lt_of_le hp hbh.size))
      refine CJ.mono ?_
      clear CJ
      rintro e r9 ⟨rfl, hbq⟩
      dsimp only
      refine hK.out _ _ ?_ (fun hHeld => ?_)
      · (try dsimp only)
        exact keepS.out _ _ hHeld hbq
      clear hK K
      try simp only [Act.put, List.getElem_toArray, List.getElem_cons_zero, List.getElem_cons_succ, List.setIfInBounds_toArray, List.set_cons_zero, List.set_cons_succ]
      refine tkY 9 (v := ?v9) rfl (.inl ⟨by rfl, ?hy9⟩) ?hr9
      case hy9 => (intro w hSw; (try dsimp only at hSw); go_simp; try with_reducible rfl)
      simp only [Act.put, List.getElem_toArray, List.getElem_cons_zero, List.getElem_cons_succ, List.setIfInBounds_toArray, List.set_cons_zero, List.set_cons_succ]
      refine wpAnyH_done (by kernel_rfl) ?_ _
      have hbW := hHeld.1
      clear hHeld hS1 keepS
      have hbz := hb.trans (hbW.mono hb.size)
      clear hbW
      repeat' ((fail_if_success at_builtin); (first | go_skip | go_guarded | go_step))
      go_roundw
      case rel => exact ⟨i + 1, by omega, by first | rfl | go_num, hbz⟩
      case measure => (try go_num); (try simp [intOf]); (try omega)
    · have i1 : ¬ (i : Int) < (m : Int) := by omega
      repeat' ((fail_if_success at_builtin); (first | go_skip | go_guarded | go_step))
      go_ret
      exact ⟨rfl, hb⟩
end Go.Proofs.YtennhjkhjplmoaaDoor
