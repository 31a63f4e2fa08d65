/- Cache: which entry is removed first. -/
import Derived.Test.YtpdlapdnjmoaoaaDoorCaD
import Derived.Test.YtpdlapdnjmoaoaaDoorShelf
namespace Go.Proofs.YtpdlapdnjmoaoaaDoor
open Go.RowKit
def orI (a b : Int) : Int := if a = 0 then b else a
set_option maxRecDepth 100000 in
set_option maxHeartbeats 1000000 in
theorem or_any (a b : Int) (g : Nat) (w : World) (h0 : w.cell? ⟨g, 0, none⟩ = some (.int .i64 a)) (h1 : w.cell? ⟨g, 1, none⟩ = some (.int .i64 b)) :
    Calls Tryd.prog 53 #[.slice (some ⟨g, 0, none⟩) 2 2] w fun e w' => e = .returned (.int .i64 (orI a b)) ∧ w' = w := by
  go_enter Tryd.func53, Tryd.ntmps53
  repeat' ((fail_if_success at_builtin); (first | go_skip | go_guarded | go_step))
  go_loopw [8] (fun u8 wr => ∃ i : Nat, i ≤ 2 ∧ u8 = .int .i64 (i : Int) ∧ wr = w ∧ (1 ≤ i → a = 0) ∧ (2 ≤ i → b = 0)) (fun u8 _ => 2 - (intOf u8).toNat)
  case atStart => exact ⟨0, by omega, rfl, rfl, by omega, by omega⟩
  case round =>
    obtain ⟨i, hi, rfl, rfl, ha, hb⟩ := hrel
    have i2 : IntKind.i64.wrap ((i : Int) + 1) = (i : Int) + 1 := IntWalk.i64_in _ (by omega)
    match i, hi with
    | 0, _ =>
      by_cases h : a = 0
      · have hq : (a != 0) = false := by simpa using h
        replace h := Lib.hid h
        repeat' ((fail_if_success at_builtin); (first | go_skip | go_guarded | go_step))
        go_roundw
        case rel => exact ⟨1, by omega, by go_num, trivial, fun _ => h.out, by omega⟩
        case measure => simp [intOf]
      · have hq : (a != 0) = true := by simpa using h
        have hv : orI a b = a := by unfold orI; rw [if_neg h]
        replace hv := Lib.hid hv
        clear h
        repeat' ((fail_if_success at_builtin); (first | go_skip | go_guarded | go_step))
        go_ret
        exact ⟨ret_i hv.out.symm, rfl⟩
    | 1, _ =>
      have ha := ha (by omega)
      have hv : orI a b = b := by unfold orI; rw [if_pos ha]
      replace hv := Lib.hid hv
      replace ha := Lib.hid ha
      by_cases h : b = 0
      · have hq : (b != 0) = false := by simpa using h
        replace h := Lib.hid h
        repeat' ((fail_if_success at_builtin); (first | go_skip | go_guarded | go_step))
        go_roundw
        case rel => exact ⟨2, by omega, by go_num, trivial, fun _ => ha.out, fun _ => h.out⟩
        case measure => simp [intOf]
      · have hq : (b != 0) = true := by simpa using h
        clear h
        repeat' ((fail_if_success at_builtin); (first | go_skip | go_guarded | go_step))
        go_ret
        exact ⟨ret_i hv.out.symm, rfl⟩
    | 2, _ =>
      have hv : orI a b = 0 := by unfold orI; rw [if_pos (ha (by omega)), hb (by omega)]
      replace hv := Lib.hid hv
      clear ha hb
      repeat' ((fail_if_success at_builtin); (first | go_skip | go_guarded | go_step))
      go_ret
      exact ⟨ret_i hv.out.symm, rfl⟩
def older (a b : Ent) : Bool := decide (a.used < b.used) || (decide (a.used = b.used) && decide (a.created < b.created))
def ordI (a b : Ent) : Int := orI (Lib.compareInt a.used b.used) (Lib.compareInt a.created b.created)
theorem ordI_older (a b : Ent) : (ordI a b < 0) ↔ older a b = true := by
  unfold ordI older orI Lib.compareInt
  simp only [Bool.or_eq_true, Bool.and_eq_true, decide_eq_true_eq]
  repeat' split
  all_goals omega
/-- the oldest, among those from place i on and x at place k -/
def oldF (x : Ent) (k i : Nat) : List Ent → Nat
  | [] => k
  | y :: l => if older y x then oldF y i (i + 1) l else oldF x k (i + 1) l
def oldS : List Ent → Nat
  | [] => 0
  | x :: l => oldF x 0 1 l
theorem older_self (x : Ent) : older x x = false := by simp [older]
theorem oldF_lt : ∀ (l : List Ent) (x : Ent) (k i n : Nat), k < n → i + l.length ≤ n → oldF x k i l < n
  | [], x, k, i, n, h, _ => h
  | y :: l, x, k, i, n, h, hn => by
    unfold oldF
    simp at hn
    split
    · exact oldF_lt l y i (i + 1) n (by omega) (by omega)
    · exact oldF_lt l x k (i + 1) n h (by omega)
theorem oldS_lt {l : List Ent} (h : 0 < l.length) : oldS l < l.length := by
  cases l with
  | nil => simp at h
  | cons x l => exact oldF_lt l x 0 1 _ (by simp) (by simp; omega)
set_option maxRecDepth 100000 in
set_option maxHeartbeats 2000000 in
theorem roomc_any (a b : Ent) (w : World) : Calls Tryd.prog 67 #[.agg (ent8 a), .agg (ent8 b)] w fun e w' => e = .returned (.int .i64 (ordI a b)) ∧ Below w.heap.size w w' := by
  obtain ⟨w1, hw1⟩ : ∃ w1 : World, w1 = (w.alloc (.cells (ent8 a) 42)).alloc (.cells (ent8 b) 42) := ⟨_, rfl⟩
  have hb0 : Below w.heap.size w w1 := by rw [hw1]; exact ((Below.refl w.heap.size w).alloc (Nat.le_refl _) _).alloc (by simp) _
  have zz : w1.heap.size = w.heap.size + 2 := by rw [hw1]; simp
  have hS : ∀ w', Below w1.heap.size w1 w' → Below w1.heap.size w1 w' ∧ w'.cell? ⟨w.heap.size + 0, 7, none⟩ = some (.int .i64 a.used) ∧ w'.cell? ⟨w.heap.size + 0, 6, none⟩ = some (.int .i64 a.created) ∧ w'.cell? ⟨w.heap.size + 1, 7, none⟩ = some (.int .i64 b.used) ∧ w'.cell? ⟨w.heap.size + 1, 6, none⟩ = some (.int .i64 b.created) := by
    intro w' hb
    refine ⟨hb, ?_, ?_, ?_, ?_⟩
    · rw [hb.cell (by show w.heap.size + 0 < _; omega), hw1]; simp [go_sem]
    · rw [hb.cell (by show w.heap.size + 0 < _; omega), hw1]; simp [go_sem]
    · rw [hb.cell (by show w.heap.size + 1 < _; omega), hw1]; simp [go_sem]
    · rw [hb.cell (by show w.heap.size + 1 < _; omega), hw1]; simp [go_sem]
  have hS1 := hS w1.drew (Below.refl _ _).drew
  have keepA : ∀ w' o, (Below w1.heap.size w1 w' ∧ w'.cell? ⟨w.heap.size + 0, 7, none⟩ = some (.int .i64 a.used) ∧ w'.cell? ⟨w.heap.size + 0, 6, none⟩ = some (.int .i64 a.created) ∧ w'.cell? ⟨w.heap.size + 1, 7, none⟩ = some (.int .i64 b.used) ∧ w'.cell? ⟨w.heap.size + 1, 6, none⟩ = some (.int .i64 b.created)) → (Below w1.heap.size w1 (w'.alloc o) ∧ (w'.alloc o).cell? ⟨w.heap.size + 0, 7, none⟩ = some (.int .i64 a.used) ∧ (w'.alloc o).cell? ⟨w.heap.size + 0, 6, none⟩ = some (.int .i64 a.created) ∧ (w'.alloc o).cell? ⟨w.heap.size + 1, 7, none⟩ = some (.int .i64 b.used) ∧ (w'.alloc o).cell? ⟨w.heap.size + 1, 6, none⟩ = some (.int .i64 b.created)) := fun w' o h => hS _ (h.1.alloc h.1.size o)
  replace hw1 := Lib.hid hw1
  replace keepA := Lib.hid keepA
  clear hS
  simp only [Nat.add_zero] at hS1 keepA
  go_enter Tryd.func67, Tryd.ntmps67
  repeat' ((fail_if_success at_builtin); (first | go_skip | go_guarded | go_step))
  rw [← hw1.out]
  refine wp_region_held_drew (S := fun w' => Below w1.heap.size w1 w' ∧ w'.cell? ⟨w.heap.size, 7, none⟩ = some (.int .i64 a.used) ∧ w'.cell? ⟨w.heap.size, 6, none⟩ = some (.int .i64 a.created) ∧ w'.cell? ⟨w.heap.size + 1, 7, none⟩ = some (.int .i64 b.used) ∧ w'.cell? ⟨w.heap.size + 1, 6, none⟩ = some (.int .i64 b.created)) (by kernel_rfl) ?_ (fun hHeld => ?_)
  · (try dsimp only)
    exact hS1
  refine wpAnyH_take (i := 0) (v := ?v299) rfl (by kernel_rfl) (by kernel_rfl) (by kernel_rfl) (fun _ _ _ h => h) (Or.inl ⟨by rfl, ?hy299⟩) (by assumption) ?rest299
  case hy299 => (intro w hSw; (try dsimp only at hSw); go_simp; try with_reducible rfl)
  simp only [Act.put, List.getElem_toArray, List.getElem_cons_zero, List.setIfInBounds_toArray, List.set_cons_zero, List.set_cons_succ]
  refine wpAnyH_take (i := 1) (v := ?v300) rfl (by kernel_rfl) (by kernel_rfl) (by kernel_rfl) (fun _ _ _ h => h) (Or.inl ⟨by rfl, ?hy300⟩) (by assumption) ?rest300
  case hy300 => (intro w hSw; (try dsimp only at hSw); go_simp; try with_reducible rfl)
  simp only [Act.put, List.getElem_toArray, List.getElem_cons_zero, List.getElem_cons_succ, List.setIfInBounds_toArray, List.set_cons_zero, List.set_cons_succ]
  refine wpAnyH_take (i := 2) (v := ?v301) rfl (by kernel_rfl) (by kernel_rfl) (by kernel_rfl) (fun _ _ _ h => h) (Or.inl ⟨by rfl, ?hy301⟩) (by assumption) ?rest301
  case hy301 => (intro w hSw; (try dsimp only at hSw); go_simp; try with_reducible rfl)
  simp only [Act.put, List.getElem_toArray, List.getElem_cons_zero, List.getElem_cons_succ, List.setIfInBounds_toArray, List.set_cons_zero, List.set_cons_succ]
  refine wpAnyH_take (i := 3) (v := ?v302) rfl (by kernel_rfl) (by kernel_rfl) (by kernel_rfl) (fun _ _ _ h => h) (Or.inl ⟨by rfl, ?hy302⟩) (by assumption) ?rest302
  case hy302 => (intro w hSw; (try dsimp only at hSw); go_simp; try with_reducible rfl)
  simp only [Act.put, List.getElem_toArray, List.getElem_cons_zero, List.getElem_cons_succ, List.setIfInBounds_toArray, List.set_cons_zero, List.set_cons_succ]
  refine wpAnyH_take (i := 5) (v := ?v303) rfl (by kernel_rfl) (by kernel_rfl) (by kernel_rfl) (fun _ _ _ h => h) (Or.inl ⟨by rfl, ?hy303⟩) (by assumption) ?rest303
  case hy303 => (intro w hSw; (try dsimp only at hSw); go_simp; try with_reducible rfl)
  simp only [Act.put, List.getElem_toArray, List.getElem_cons_zero, List.getElem_cons_succ, List.setIfInBounds_toArray, List.set_cons_zero, List.set_cons_succ]
  refine wpAnyH_take (i := 6) (v := ?v304) rfl (by kernel_rfl) (by kernel_rfl) (by kernel_rfl) (fun _ _ _ h => h) (Or.inl ⟨by rfl, ?hy304⟩) (by assumption) ?rest304
  case hy304 => (intro w hSw; (try dsimp only at hSw); go_simp; try with_reducible rfl)
  simp only [Act.put, List.getElem_toArray, List.getElem_cons_zero, List.getElem_cons_succ, List.setIfInBounds_toArray, List.set_cons_zero, List.set_cons_succ]
  refine wpAnyH_take (i := 7) (v := ?v305) rfl (by kernel_rfl) (by kernel_rfl) (by kernel_rfl) (fun _ _ _ h => h) (Or.inl ⟨by rfl, ?hy305⟩) (by assumption) ?rest305
  case hy305 => (intro w hSw; (try dsimp only at hSw); go_simp; try with_reducible rfl)
  simp only [Act.put, List.getElem_toArray, List.getElem_cons_zero, List.getElem_cons_succ, List.setIfInBounds_toArray, List.set_cons_zero, List.set_cons_succ]
  refine wpAnyH_take (i := 8) (v := ?v306) rfl (by kernel_rfl) (by kernel_rfl) (by kernel_rfl) (fun _ _ _ h => h) (Or.inl ⟨by rfl, ?hy306⟩) (by assumption) ?rest306
  case hy306 => (intro w hSw; (try dsimp only at hSw); go_simp; try with_reducible rfl)
  simp only [Act.put, List.getElem_toArray, List.getElem_cons_zero, List.getElem_cons_succ, List.setIfInBounds_toArray, List.set_cons_zero, List.set_cons_succ]
  refine wpAnyH_ready (rs := [4]) (by kernel_rfl) (by simp) ?_
  refine AllReadyH.cons rfl (fun K hK => ?_) AllReadyH.nil
  go_simp
  go_at_call 48
  refine (Tryd.cmp_Compare_int _ _ _).mono ?_
  rintro e w7 ⟨rfl, rfl⟩
  dsimp only
  refine hK.out _ _ ?_ (fun hHeld => ?_)
  · (try dsimp only)
    first | exact hHeld | exact keepA.out _ _ hHeld
  clear hK K
  try simp only [Act.put, List.getElem_toArray, List.getElem_cons_zero, List.getElem_cons_succ, List.setIfInBounds_toArray, List.set_cons_zero, List.set_cons_succ]
  refine wpAnyH_ready (rs := [9]) (by kernel_rfl) (by simp) ?_
  refine AllReadyH.cons rfl (fun K hK => ?_) AllReadyH.nil
  go_simp
  go_at_call 48
  refine (Tryd.cmp_Compare_int _ _ _).mono ?_
  rintro e w7 ⟨rfl, rfl⟩
  dsimp only
  refine hK.out _ _ ?_ (fun hHeld => ?_)
  · (try dsimp only)
    first | exact hHeld | exact keepA.out _ _ hHeld
  clear hK K
  try simp only [Act.put, List.getElem_toArray, List.getElem_cons_zero, List.getElem_cons_succ, List.setIfInBounds_toArray, List.set_cons_zero, List.set_cons_succ]
  refine wpAnyH_ready (rs := [10]) (by kernel_rfl) (by simp) ?_
  refine AllReadyH.cons rfl (fun K hK => ?_) AllReadyH.nil
  go_simp
  refine hK.out _ _ ?_ (fun hHeld => ?_)
  · (try dsimp only)
    first | exact hHeld | exact keepA.out _ _ hHeld
  clear hK K
  try simp only [Act.put, List.getElem_toArray, List.getElem_cons_zero, List.getElem_cons_succ, List.setIfInBounds_toArray, List.set_cons_zero, List.set_cons_succ]
  refine wpAnyH_ready (rs := [11]) (by kernel_rfl) (by simp) ?_
  refine AllReadyH.cons rfl (fun K hK => ?_) AllReadyH.nil
  go_simp
  go_at_call 53
  refine (or_any (Lib.compareInt a.used b.used) (Lib.compareInt a.created b.created) _ _ (by rw [← zz]; simp [go_sem]) (by rw [← zz]; simp [go_sem])).mono ?_
  rintro e w7 ⟨rfl, rfl⟩
  dsimp only
  refine hK.out _ _ ?_ (fun hHeld => ?_)
  · (try dsimp only)
    first | exact hHeld | exact keepA.out _ _ hHeld
  clear hK K
  try simp only [Act.put, List.getElem_toArray, List.getElem_cons_zero, List.getElem_cons_succ, List.setIfInBounds_toArray, List.set_cons_zero, List.set_cons_succ]
  refine wpAnyH_take (i := 12) (v := ?v307) rfl (by kernel_rfl) (by kernel_rfl) (by kernel_rfl) (fun _ _ _ h => h) (Or.inl ⟨by rfl, ?hy307⟩) (by assumption) ?rest307
  case hy307 => (intro w hSw; (try dsimp only at hSw); go_simp; try with_reducible rfl)
  simp only [Act.put, List.getElem_toArray, List.getElem_cons_zero, List.getElem_cons_succ, List.setIfInBounds_toArray, List.set_cons_zero, List.set_cons_succ]
  refine wpAnyH_done (by kernel_rfl) ?_ _
  have hb9 := hHeld.1
  repeat' ((fail_if_success at_builtin); (first | go_skip | go_guarded | go_step))
  go_ret
  exact ⟨rfl, hb0.trans (hb9.mono hb0.size)⟩
set_option maxRecDepth 100000 in
set_option maxHeartbeats 1000000 in
theorem oldest_any (l : List Ent) (A : Option Addr) (n c : Nat) (w : World) (hn : n = l.length) (hs : Seq w w.heap.size 8 A n (entsC l)) (h0 : 0 < n) (hl : n ≤ 1000000000) :
    Calls Tryd.prog 46 #[.slice A n c] w fun e w' => e = .returned (.int .i64 (oldS l : Int)) ∧ Below w.heap.size w w' := by
  have hn2 := Lib.hid hn
  replace hs := Lib.hid hs
  have hx0 : l[0]? = some l[0] := List.getElem?_eq_getElem (by omega)
  have hst : oldS l = oldF l[0] 0 1 (l.drop 1) := by
    cases l with
    | nil => simp at hn; omega
    | cons x r => rfl
  generalize l[0] = x0 at *
  replace hst := Lib.hid hst
  replace hx0 := Lib.hid hx0
  clear hn
  go_enter Tryd.func46, Tryd.ntmps46
  repeat' ((fail_if_success at_builtin); (first | go_skip | go_guarded | go_step))
  go_loopw [3, 4] (fun u3 u4 wr => ∃ (k i : Nat) (x : Ent), i ≤ n ∧ k < n ∧ u3 = .int .i64 (k : Int) ∧ u4 = .int .i64 (i : Int) ∧ l[k]? = some x ∧ Below w.heap.size w wr ∧ oldS l = oldF x k i (l.drop i)) (fun _ u4 _ => n - (intOf u4).toNat)
  case atStart => exact ⟨0, 1, x0, by omega, by omega, rfl, rfl, hx0.out, Below.refl _ _, hst.out⟩
  case round =>
    clear hst hx0
    obtain ⟨k, i, x, hi, hk, rfl, rfl, hxk, hb, hu⟩ := hrel
    by_cases hlt : i < n
    · have hlt2 : i < l.length := by have := hn2.out; omega
      have hy : l[i]? = some l[i] := List.getElem?_eq_getElem hlt2
      obtain ⟨b, o, rfl, hbB, hcx⟩ := ent_at hs.out hn2.out hxk
      obtain ⟨b', o', hbo, _, hcy⟩ := ent_at hs.out hn2.out hy
      cases hbo
      have hcx := hcx.map (fun j => hb.cell (p := ⟨b, o + k * 8 + j, none⟩) hbB)
      have hcy := hcy.map (fun j => hb.cell (p := ⟨b, o + i * 8 + j, none⟩) hbB)
      rw [List.drop_eq_getElem_cons hlt2, oldF] at hu
      generalize l[i] = y at *
      obtain ⟨_, _, _, _, _, _, x6, x7⟩ := hcx
      obtain ⟨_, _, _, _, _, _, y6, y7⟩ := hcy
      have i0 : (0 : Int) ≤ (i : Int) := by omega
      have i1 : (i : Int) < (n : Int) := by omega
      have k0 : (0 : Int) ≤ (k : Int) := by omega
      have k1 : (k : Int) < (n : Int) := by omega
      have i2 : IntKind.i64.wrap ((i : Int) + 1) = (i : Int) + 1 := IntWalk.i64_in _ (by omega)
      have hol : older y x = (decide (y.used < x.used) || (decide (y.used = x.used) && decide (y.created < x.created))) := rfl
      replace hu := Lib.hid hu
      replace hxk := Lib.hid hxk
      replace hy := Lib.hid hy
      have hbd : ∀ q, Below w.heap.size w (wr.drewN q) := fun q => hb.trans ⟨rfl, rfl, rfl, Nat.le_refl _, fun _ _ => rfl⟩
      by_cases h1 : y.used < x.used
      · have hov : older y x = true := by rw [hol, decide_eq_true h1]; rfl
        have d1 : decide (y.used < x.used) = true := decide_eq_true h1
        clear hol
        replace hov := Lib.hid hov
        repeat' ((fail_if_success at_builtin); (first | go_skip | go_guarded | go_step))
        go_quiet (fail)
        repeat' ((fail_if_success at_builtin); (first | go_skip | go_guarded | go_step))
        go_roundw
        case rel => exact ⟨i, i + 1, y, by omega, by omega, rfl, by go_num, hy.out, hbd nq, by have := hu.out; rw [hov.out, if_pos rfl] at this; exact this⟩
        case measure => simp [intOf]; omega
      · have d1 : decide (y.used < x.used) = false := decide_eq_false h1
        by_cases h2 : y.used = x.used
        · have d2 : (y.used == x.used) = true := by simpa using h2
          by_cases h3 : y.created < x.created
          · have hov : older y x = true := by rw [hol, decide_eq_true h2, decide_eq_true h3]; simp
            have d3 : decide (y.created < x.created) = true := decide_eq_true h3
            clear hol h2
            replace hov := Lib.hid hov
            repeat' ((fail_if_success at_builtin); (first | go_skip | go_guarded | go_step))
            go_quiet (fail)
            repeat' ((fail_if_success at_builtin); (first | go_skip | go_guarded | go_step))
            go_roundw
            case rel => exact ⟨i, i + 1, y, by omega, by omega, rfl, by go_num, hy.out, hbd nq, by have := hu.out; rw [hov.out, if_pos rfl] at this; exact this⟩
            case measure => simp [intOf]; omega
          · have hov : older y x = false := by rw [hol, decide_eq_false h1, decide_eq_false h3]; simp
            have d3 : decide (y.created < x.created) = false := decide_eq_false h3
            clear hol h2
            replace hov := Lib.hid hov
            repeat' ((fail_if_success at_builtin); (first | go_skip | go_guarded | go_step))
            go_quiet (fail)
            repeat' ((fail_if_success at_builtin); (first | go_skip | go_guarded | go_step))
            go_roundw
            case rel => exact ⟨k, i + 1, x, by omega, by omega, rfl, by go_num, hxk.out, hbd nq, by have := hu.out; rw [hov.out, if_neg (by simp)] at this; exact this⟩
            case measure => simp [intOf]; omega
        · have d2 : (y.used == x.used) = false := by simpa using h2
          have hov : older y x = false := by rw [hol, decide_eq_false h1, decide_eq_false h2]; rfl
          clear hol
          replace hov := Lib.hid hov
          repeat' ((fail_if_success at_builtin); (first | go_skip | go_guarded | go_step))
          go_quiet (fail)
          repeat' ((fail_if_success at_builtin); (first | go_skip | go_guarded | go_step))
          go_roundw
          case rel => exact ⟨k, i + 1, x, by omega, by omega, rfl, by go_num, hxk.out, hbd nq, by have := hu.out; rw [hov.out, if_neg (by simp)] at this; exact this⟩
          case measure => simp [intOf]; omega
    · have i1 : ¬ ((i : Int) < (n : Int)) := by omega
      rw [List.drop_of_length_le (by have := hn2.out; omega), oldF] at hu
      replace hu := Lib.hid hu
      repeat' ((fail_if_success at_builtin); (first | go_skip | go_guarded | go_step))
      go_ret
      exact ⟨by rw [hu.out]; rfl, hb⟩
end Go.Proofs.YtpdlapdnjmoaoaaDoor
