/- Put, on both sides. -/
import Derived.Test.YtclinbpkcmcokaaDoorFnd
namespace Go.Proofs.YtclinbpkcmcokaaDoor
open Go.RowKit
theorem art_info : Info Tryd.prog 30 (.agg #[.string ByteArray.empty, .string ByteArray.empty, .int .i64 0, .string ByteArray.empty, .int .u64 0, .int .i64 0, .int .i64 0, .int .i64 0]) 8 88 := by unfold Info; kernel_rfl
theorem acl_one (l : List Art) : ∀ u ∈ l.flatMap acl, u.oneCell' = true := by
  intro u hu
  obtain ⟨a, _, h⟩ := List.mem_flatMap.1 hu
  simp only [acl, List.mem_cons, List.not_mem_nil, or_false] at h
  rcases h with rfl | rfl | rfl | rfl | rfl | rfl | rfl | rfl <;> rfl
/-- an own list of artifacts -/
abbrev OwnA (w w' : World) (v : Value) (l : List Art) : Prop := Own w w' 30 8 v l.length (l.flatMap acl)
theorem Own.nilcap {W0 w : World} {e : TypeId} {size n c : Nat} {A : Option Addr} {xs : List Value} (H : Own W0 w e size (.slice A n c) n xs) (h : A = none) : c = 0 := by
  rcases H.1.2 with ⟨hv, h0⟩ | ⟨g, cap, cur, hv, _⟩
  · injection hv
  · injection hv with h1; rw [h] at h1; cases h1
set_option maxRecDepth 100000 in
set_option maxHeartbeats 800000 in
theorem clone_any (A : Option Addr) (c : Nat) (l : List Art) (w : World) (B : Nat) (hnil : A = none → c = 0) (hs : SeqA w B A l) (hn : l.length ≤ 1000000) (hB : B ≤ w.heap.size) :
    Calls Tryd.prog 22 #[.slice A l.length c] w fun e w' => ∃ A c, e = .returned (.slice A l.length c) ∧ OwnA w w' (.slice A l.length c) l := by
  rcases A with _ | ad
  · obtain rfl := hnil rfl
    obtain h0 : l.length = 0 := by
      rcases Nat.eq_zero_or_pos l.length with h | h
      · exact h
      · obtain ⟨_, _, h, _⟩ := hs.2 h
        cases h
    obtain rfl : l = [] := List.eq_nil_of_length_eq_zero h0
    have hq := Lib.run_eql_slice_nil (P := Tryd.prog) w 22 30 none 0 0 0 0 Tryd.underlying22
    go_enter Tryd.func22, Tryd.ntmps22
    repeat' ((fail_if_success at_builtin); (first | go_skip | go_guarded | go_step))
    go_ret
    exact ⟨none, 0, rfl, Own.nil_ _ _ _⟩
  · have hq := Lib.run_eql_slice_nil (P := Tryd.prog) w 22 30 (some ad) l.length c 0 0 Tryd.underlying22
    go_enter Tryd.func22, Tryd.ntmps22
    repeat' ((fail_if_success at_builtin); (first | go_skip | go_guarded | go_step))
    have hba := (Below.refl w.heap.size w).alloc (Nat.le_refl _) (.cells #[] 30)
    refine wp_appS (Own.empty_lit w 30 8) Tryd.underlying22 art_info (hs.below (hba.mono hB)) (acl_one l) (by omega) ?_
    intro v w1 hown _
    repeat' ((fail_if_success at_builtin); (first | go_skip | go_guarded | go_step))
    go_ret
    rw [Nat.zero_add, List.nil_append] at hown
    obtain ⟨A, c, rfl⟩ := hown.slice_form
    exact ⟨A, c, rfl, hown⟩
/-- numbers out of their ranges -/
def badR (a : Art) : Bool := decide (a.att < 1) || decide (16 < a.att) || decide (a.size < 0) || decide (1099511627776 < a.size) || decide (a.created < 0) || decide (1125899906842624 < a.created)
/-- is a text malformed -/
def badT (a : Art) : Bool := decide (pathE a.run.data.toList ≠ 0) || decide (pathE a.job.data.toList ≠ 0) || !nameS a.nm.data.toList
/-- the number of the error for which an artifact is not stored -/
def errA (l : List Art) (a : Art) : Nat := if badT a = true then 1 else if 512 < (key a).size then 3 else if badR a = true then 2 else if 0 ≤ fnd a.run (key a) l then 7 else if 4096 ≤ l.length then 21 else 0
theorem keepA {B w' w'' : World} {g : Nat} {a : Art} (hlt : g < B.heap.size) (h : Below B.heap.size B w' ∧ w'.cell? ⟨g, 0, none⟩ = some (.string a.run) ∧ w'.cell? ⟨g, 1, none⟩ = some (.string a.job) ∧ w'.cell? ⟨g, 2, none⟩ = some (.int .i64 a.att) ∧ w'.cell? ⟨g, 3, none⟩ = some (.string a.nm) ∧ w'.cell? ⟨g, 4, none⟩ = some (.int .u64 a.dig) ∧ w'.cell? ⟨g, 5, none⟩ = some (.int .i64 a.size) ∧ w'.cell? ⟨g, 6, none⟩ = some (.int .i64 a.created) ∧ w'.cell? ⟨g, 7, none⟩ = some (.int .i64 a.expires)) (hc : Below w'.heap.size w' w'') : Below B.heap.size B w'' ∧ w''.cell? ⟨g, 0, none⟩ = some (.string a.run) ∧ w''.cell? ⟨g, 1, none⟩ = some (.string a.job) ∧ w''.cell? ⟨g, 2, none⟩ = some (.int .i64 a.att) ∧ w''.cell? ⟨g, 3, none⟩ = some (.string a.nm) ∧ w''.cell? ⟨g, 4, none⟩ = some (.int .u64 a.dig) ∧ w''.cell? ⟨g, 5, none⟩ = some (.int .i64 a.size) ∧ w''.cell? ⟨g, 6, none⟩ = some (.int .i64 a.created) ∧ w''.cell? ⟨g, 7, none⟩ = some (.int .i64 a.expires) := by
  obtain ⟨h0, c0, c1, c2, c3, c4, c5, c6, c7⟩ := h
  have hl : g < w'.heap.size := Nat.lt_of_lt_of_le hlt h0.size
  refine ⟨h0.trans (hc.mono h0.size), ?_⟩
  refine ⟨(hc.cell (p := ⟨g, 0, none⟩) hl).trans c0, (hc.cell (p := ⟨g, 1, none⟩) hl).trans c1, (hc.cell (p := ⟨g, 2, none⟩) hl).trans c2, (hc.cell (p := ⟨g, 3, none⟩) hl).trans c3, (hc.cell (p := ⟨g, 4, none⟩) hl).trans c4, (hc.cell (p := ⟨g, 5, none⟩) hl).trans c5, (hc.cell (p := ⟨g, 6, none⟩) hl).trans c6, (hc.cell (p := ⟨g, 7, none⟩) hl).trans c7⟩
set_option maxRecDepth 100000 in
set_option maxHeartbeats 800000 in
theorem check_any (l : List Art) (a : Art) (A : Option Addr) (c : Nat) (w : World) (B : Nat) (hR : Ready w) (hB : B ≤ w.heap.size) (hs : SeqA w B A l) (hl : l.length ≤ 1000000) (hsh : ∀ a ∈ l, Shrt a) (ha : Shrt a) :
    Calls Tryd.prog 23 #[.slice A l.length c, .agg (acells a)] w fun e w' => e = .returned (.int .i64 (errA l a : Int)) ∧ Below w.heap.size w w' := by
  have P1 := fun w' => parts_any a.run w' (by have := ha.1; omega)
  have P2 := fun w' => parts_any a.job w' (by have := ha.2.1; omega)
  have N1 := fun w' => idName_any a.nm w' (by have := ha.2.2; omega)
  have K1 := fun w' => aname_any a w' ha.2.1 ha.2.2
  have F1 := fun (w' : World) (hb : Below w.heap.size w w') => find_any a.run (key a) l A c w' B (Nat.le_trans hB hb.size) (hs.below (hb.mono hB)) hl hsh
  have hsl := hs.1
  have hks : (key a).size ≤ 3000000 := by
    have h1 := ha.2.1
    have h2 := ha.2.2
    have : (key a).size = a.job.size + 1 + a.nm.size := by unfold key; rw [ByteArray.size_append, ByteArray.size_append]; rfl
    omega
  unfold errA
  have HT : badT a = (decide (pathE a.run.data.toList ≠ 0) || decide (pathE a.job.data.toList ≠ 0) || !nameS a.nm.data.toList) := rfl
  generalize pathE a.run.data.toList = p1 at *
  generalize pathE a.job.data.toList = p2 at *
  generalize nameS a.nm.data.toList = bn at *
  replace P1 := Lib.hid P1
  replace P2 := Lib.hid P2
  replace N1 := Lib.hid N1
  replace K1 := Lib.hid K1
  replace F1 := Lib.hid F1
  replace hs := Lib.hid hs
  replace hsh := Lib.hid hsh
  replace hR := Lib.hid hR
  clear hsl
  go_enter Tryd.func23, Tryd.ntmps23
  repeat' ((fail_if_success at_builtin); (first | go_skip | go_guarded | go_step))
  obtain ⟨hb, hz, c0, c1, c2, c3, c4, c5, c6, c7⟩ := abox w a 30
  generalize w.alloc (.cells (acells a) 30) = w1 at *
  have k1 : w.heap.size < w1.heap.size := by omega
  clear hz
  repeat' ((fail_if_success at_builtin); (first | go_skip | go_guarded | go_step))
  refine (P1.out w1 (hR.out.below hb)).mono ?_
  rintro e w2 ⟨⟨v2, rfl⟩, hb2⟩
  have d0 := (hb2.cell (p := ⟨w.heap.size, 0, none⟩) k1).trans c0
  have d1 := (hb2.cell (p := ⟨w.heap.size, 1, none⟩) k1).trans c1
  have d2 := (hb2.cell (p := ⟨w.heap.size, 2, none⟩) k1).trans c2
  have d3 := (hb2.cell (p := ⟨w.heap.size, 3, none⟩) k1).trans c3
  have d4 := (hb2.cell (p := ⟨w.heap.size, 4, none⟩) k1).trans c4
  have d5 := (hb2.cell (p := ⟨w.heap.size, 5, none⟩) k1).trans c5
  have d6 := (hb2.cell (p := ⟨w.heap.size, 6, none⟩) k1).trans c6
  have d7 := (hb2.cell (p := ⟨w.heap.size, 7, none⟩) k1).trans c7
  clear c0 c1 c2 c3 c4 c5 c6 c7
  have hb := hb.trans (hb2.mono hb.size)
  have k2 : w.heap.size < w2.heap.size := Nat.lt_of_lt_of_le k1 hb2.size
  clear hb2 k1
  dsimp only
  repeat' ((fail_if_success at_builtin); (first | go_skip | go_guarded | go_step))
  refine (P2.out w2 (hR.out.below hb)).mono ?_
  rintro e w3 ⟨⟨v3, rfl⟩, hb3⟩
  have c0 := (hb3.cell (p := ⟨w.heap.size, 0, none⟩) k2).trans d0
  have c1 := (hb3.cell (p := ⟨w.heap.size, 1, none⟩) k2).trans d1
  have c2 := (hb3.cell (p := ⟨w.heap.size, 2, none⟩) k2).trans d2
  have c3 := (hb3.cell (p := ⟨w.heap.size, 3, none⟩) k2).trans d3
  have c4 := (hb3.cell (p := ⟨w.heap.size, 4, none⟩) k2).trans d4
  have c5 := (hb3.cell (p := ⟨w.heap.size, 5, none⟩) k2).trans d5
  have c6 := (hb3.cell (p := ⟨w.heap.size, 6, none⟩) k2).trans d6
  have c7 := (hb3.cell (p := ⟨w.heap.size, 7, none⟩) k2).trans d7
  clear d0 d1 d2 d3 d4 d5 d6 d7
  have hb := hb.trans (hb3.mono hb.size)
  have k1 : w.heap.size < w3.heap.size := Nat.lt_of_lt_of_le k2 hb3.size
  clear hb3 k2
  dsimp only
  have ENDB : badT a = true → (∀ n : Nat, (if badT a = true then 1 else n) = 1) := fun h n => by rw [if_pos h]
  by_cases hp1 : p1 = 0
  case neg =>
    have q1 : ¬ ((p1 : Int) = 0) := by omega
    have HT' : badT a = true := by rw [HT]; simp [hp1]
    repeat' ((fail_if_success at_builtin); (first | go_skip | go_guarded | go_step))
    go_ret
    exact ⟨ret_i (by rw [if_pos HT']; rfl), hb⟩
  subst hp1
  by_cases hp2 : p2 = 0
  case neg =>
    have q1 : ¬ ((p2 : Int) = 0) := by omega
    have HT' : badT a = true := by rw [HT]; simp [hp2]
    repeat' ((fail_if_success at_builtin); (first | go_skip | go_guarded | go_step))
    go_ret
    exact ⟨ret_i (by rw [if_pos HT']; rfl), hb⟩
  subst hp2
  repeat' ((fail_if_success at_builtin); (first | go_skip | go_guarded | go_step))
  refine (N1.out w3).mono ?_
  rintro e w4 ⟨rfl, hb4⟩
  have d0 := (hb4.cell (p := ⟨w.heap.size, 0, none⟩) k1).trans c0
  have d1 := (hb4.cell (p := ⟨w.heap.size, 1, none⟩) k1).trans c1
  have d2 := (hb4.cell (p := ⟨w.heap.size, 2, none⟩) k1).trans c2
  have d3 := (hb4.cell (p := ⟨w.heap.size, 3, none⟩) k1).trans c3
  have d4 := (hb4.cell (p := ⟨w.heap.size, 4, none⟩) k1).trans c4
  have d5 := (hb4.cell (p := ⟨w.heap.size, 5, none⟩) k1).trans c5
  have d6 := (hb4.cell (p := ⟨w.heap.size, 6, none⟩) k1).trans c6
  have d7 := (hb4.cell (p := ⟨w.heap.size, 7, none⟩) k1).trans c7
  clear c0 c1 c2 c3 c4 c5 c6 c7
  have hb := hb.trans (hb4.mono hb.size)
  have k2 : w.heap.size < w4.heap.size := Nat.lt_of_lt_of_le k1 hb4.size
  clear hb4 k1
  dsimp only
  cases bn
  case false =>
    have HT' : badT a = true := by rw [HT]; rfl
    repeat' ((fail_if_success at_builtin); (first | go_skip | go_guarded | go_step))
    go_ret
    exact ⟨ret_i (by rw [if_pos HT']; rfl), hb⟩
  have HT' : ¬ badT a = true := by rw [HT]; simp
  repeat' ((fail_if_success at_builtin); (first | go_skip | go_guarded | go_step))
  refine (K1.out w4).mono ?_
  rintro e w5 ⟨rfl, hb5⟩
  have c0 := (hb5.cell (p := ⟨w.heap.size, 0, none⟩) k2).trans d0
  have c1 := (hb5.cell (p := ⟨w.heap.size, 1, none⟩) k2).trans d1
  have c2 := (hb5.cell (p := ⟨w.heap.size, 2, none⟩) k2).trans d2
  have c3 := (hb5.cell (p := ⟨w.heap.size, 3, none⟩) k2).trans d3
  have c4 := (hb5.cell (p := ⟨w.heap.size, 4, none⟩) k2).trans d4
  have c5 := (hb5.cell (p := ⟨w.heap.size, 5, none⟩) k2).trans d5
  have c6 := (hb5.cell (p := ⟨w.heap.size, 6, none⟩) k2).trans d6
  have c7 := (hb5.cell (p := ⟨w.heap.size, 7, none⟩) k2).trans d7
  clear d0 d1 d2 d3 d4 d5 d6 d7
  have hb := hb.trans (hb5.mono hb.size)
  have k1 : w.heap.size < w5.heap.size := Nat.lt_of_lt_of_le k2 hb5.size
  clear hb5 k2
  dsimp only
  by_cases hk : 512 < (key a).size
  case pos =>
    repeat' ((fail_if_success at_builtin); (first | go_skip | go_guarded | go_step))
    go_ret
    exact ⟨ret_i (by rw [if_neg HT', if_pos hk]; rfl), hb⟩
  cases hr : badR a with
  | true =>
    have hr2 := hr
    simp only [badR, Bool.or_eq_true, decide_eq_true_eq] at hr2
    repeat' ((fail_if_success at_builtin); (first | go_skip | go_guarded | go_step))
    all_goals first
      | (go_ret; exact ⟨ret_i (by rw [if_neg HT', if_neg hk, if_pos hr]; rfl), hb⟩)
      | (exfalso; omega)
  | false =>
    have hr' : ¬ badR a = true := by rw [hr]; simp
    have hr2 := hr
    simp only [badR, Bool.or_eq_false_iff, decide_eq_false_iff_not] at hr2
    obtain ⟨⟨⟨⟨⟨r1, r2⟩, r3⟩, r4⟩, r5⟩, r6⟩ := hr2
    have r1' : 1 ≤ a.att := by omega
    have r2' : a.att ≤ 16 := by omega
    have r3' : 0 ≤ a.size := by omega
    have r4' : a.size ≤ 1099511627776 := by omega
    have r5' : 0 ≤ a.created := by omega
    have r6' : a.created ≤ 1125899906842624 := by omega
    generalize hfi : fnd a.run (key a) l = fi at *
    repeat' ((fail_if_success at_builtin); (first | go_skip | go_guarded | go_step))
    all_goals first | (exfalso; omega) | skip
    go_cut [73] (fun u73 wx => Below w.heap.size w wx ∧ u73 = .bool (decide (0 ≤ fi)))
    case first =>
      have F2 := fun (w' : World) (h : Below w5.heap.size w5 w' ∧ w'.cell? ⟨w.heap.size, 0, none⟩ = some (.string a.run) ∧ w'.cell? ⟨w.heap.size, 1, none⟩ = some (.string a.job) ∧ w'.cell? ⟨w.heap.size, 2, none⟩ = some (.int .i64 a.att) ∧ w'.cell? ⟨w.heap.size, 3, none⟩ = some (.string a.nm) ∧ w'.cell? ⟨w.heap.size, 4, none⟩ = some (.int .u64 a.dig) ∧ w'.cell? ⟨w.heap.size, 5, none⟩ = some (.int .i64 a.size) ∧ w'.cell? ⟨w.heap.size, 6, none⟩ = some (.int .i64 a.created) ∧ w'.cell? ⟨w.heap.size, 7, none⟩ = some (.int .i64 a.expires)) => F1.out w' (hb.trans (h.1.mono hb.size))
      have hS : Below w5.heap.size w5 w5.drew ∧ w5.drew.cell? ⟨w.heap.size, 0, none⟩ = some (.string a.run) ∧ w5.drew.cell? ⟨w.heap.size, 1, none⟩ = some (.string a.job) ∧ w5.drew.cell? ⟨w.heap.size, 2, none⟩ = some (.int .i64 a.att) ∧ w5.drew.cell? ⟨w.heap.size, 3, none⟩ = some (.string a.nm) ∧ w5.drew.cell? ⟨w.heap.size, 4, none⟩ = some (.int .u64 a.dig) ∧ w5.drew.cell? ⟨w.heap.size, 5, none⟩ = some (.int .i64 a.size) ∧ w5.drew.cell? ⟨w.heap.size, 6, none⟩ = some (.int .i64 a.created) ∧ w5.drew.cell? ⟨w.heap.size, 7, none⟩ = some (.int .i64 a.expires) := ⟨(Below.refl _ _).drew, c0, c1, c2, c3, c4, c5, c6, c7⟩
      go_region_held3 (fun w' => Below w5.heap.size w5 w' ∧ w'.cell? ⟨w.heap.size, 0, none⟩ = some (.string a.run) ∧ w'.cell? ⟨w.heap.size, 1, none⟩ = some (.string a.job) ∧ w'.cell? ⟨w.heap.size, 2, none⟩ = some (.int .i64 a.att) ∧ w'.cell? ⟨w.heap.size, 3, none⟩ = some (.string a.nm) ∧ w'.cell? ⟨w.heap.size, 4, none⟩ = some (.int .u64 a.dig) ∧ w'.cell? ⟨w.heap.size, 5, none⟩ = some (.int .i64 a.size) ∧ w'.cell? ⟨w.heap.size, 6, none⟩ = some (.int .i64 a.created) ∧ w'.cell? ⟨w.heap.size, 7, none⟩ = some (.int .i64 a.expires))
        (first | exact hS | exact keepA k1 (by assumption) hbq)
        (first
          | (go_at_call 33; refine (K1.out _).mono ?_; rintro e w7 ⟨rfl, hbq⟩; dsimp only)
          | (go_at_call 30; refine (F2 _ (by assumption)).mono ?_; rintro e w8 ⟨rfl, hbq⟩; dsimp only))
      all_goals
        repeat' ((fail_if_success at_builtin); (first | go_skip | go_guarded | go_step))
        go_meet
      case rel => exact ⟨hb.trans (Below.mono (And.left (by assumption)) hb.size), rfl⟩
    case rest =>
      obtain ⟨hbx, rfl⟩ := hcut
      clear c0 c1 c2 c3 c4 c5 c6 c7
      by_cases hf : 0 ≤ fi
      · have q : decide (0 ≤ fi) = true := by simpa using hf
        repeat' ((fail_if_success at_builtin); (first | go_skip | go_guarded | go_step))
        go_ret
        exact ⟨ret_i (by rw [if_neg HT', if_neg hk, if_neg hr', hfi, if_pos hf]; rfl), hbx⟩
      · have q : decide (0 ≤ fi) = false := by simpa using hf
        by_cases hfull : 4096 ≤ l.length
        · repeat' ((fail_if_success at_builtin); (first | go_skip | go_guarded | go_step))
          go_ret
          exact ⟨ret_i (by rw [if_neg HT', if_neg hk, if_neg hr', hfi, if_neg hf, if_pos hfull]; rfl), hbx⟩
        · repeat' ((fail_if_success at_builtin); (first | go_skip | go_guarded | go_step))
          go_ret
          exact ⟨ret_i (by rw [if_neg HT', if_neg hk, if_neg hr', hfi, if_neg hf, if_neg hfull]; rfl), hbx⟩
end Go.Proofs.YtclinbpkcmcokaaDoor
