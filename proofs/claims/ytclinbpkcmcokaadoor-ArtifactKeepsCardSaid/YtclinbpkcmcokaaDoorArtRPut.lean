/- Put of the document. -/
import Derived.Test.YtclinbpkcmcokaaDoorArtPut
namespace Go.Proofs.YtclinbpkcmcokaaDoor
open Go.RowKit
set_option maxRecDepth 100000 in
set_option maxHeartbeats 800000 in
theorem rput_any (l : List Art) (a : Art) (A : Option Addr) (c : Nat) (w : World) (B : Nat) (hB : B ≤ w.heap.size) (hnil : A = none → c = 0) (hs : SeqA w B A l) (hl : l.length ≤ 1000000) (hsh : ∀ a ∈ l, Shrt a) (ha : Shrt a) :
    Calls Tryd.prog 11 #[.slice A l.length c, .agg (acells a)] w (RetArts w (putA l a) (errA l a)) := by
  have P1 := fun w' => rpath_any a.run w' ha.1
  have P2 := fun w' => rpath_any a.job w' ha.2.1
  have N1 := fun w' => refName_any a.nm w' (by have := ha.2.2; omega)
  have K1 := fun w' => rname_any a.run a.job a.nm w' ha.2.1 ha.2.2
  have F1 := fun (w' : World) (hb : Below w.heap.size w w') => rfind_any a.run (key a) l A c w' B (Nat.le_trans hB hb.size) (hs.below (hb.mono hB)) hl hsh
  have hks : (key a).size ≤ 3000000 := by
    have h1 := ha.2.1
    have h2 := ha.2.2
    have : (key a).size = a.job.size + 1 + a.nm.size := by unfold key; rw [ByteArray.size_append, ByteArray.size_append]; rfl
    omega
  have hkk : a.job ++ slash ++ a.nm = key a := rfl
  rw [hkk] at K1
  have HT : badT a = (decide (pathE a.run.data.toList ≠ 0) || decide (pathE a.job.data.toList ≠ 0) || !nameS a.nm.data.toList) := rfl
  have ERET : ∀ (w' : World), Below w.heap.size w w' → ∀ (n : Nat), errA l a = n → n ≠ 0 → RetArts w (putA l a) (errA l a) (.returned (.tuple #[.slice A l.length c, .int .i64 (n : Int)])) w' := by
    intro w' hb n he hn
    refine ⟨A, c, ?_, ?_, hnil, hb⟩
    · unfold putA; rw [he, if_neg hn]
    · unfold putA; rw [he, if_neg hn]; exact (hs.below (hb.mono hB)).more (Nat.le_trans hB hb.size)
  generalize hP1 : pathE a.run.data.toList = p1 at *
  generalize hP2 : pathE a.job.data.toList = p2 at *
  generalize hNN : nameS a.nm.data.toList = bn at *
  generalize hfi : fnd a.run (key a) l = fi at *
  replace P1 := Lib.hid P1
  replace P2 := Lib.hid P2
  replace N1 := Lib.hid N1
  replace K1 := Lib.hid K1
  replace F1 := Lib.hid F1
  replace hs := Lib.hid hs
  replace hsh := Lib.hid hsh
  replace ERET := Lib.hid ERET
  go_enter Tryd.func11, Tryd.ntmps11
  repeat' ((fail_if_success at_builtin); (first | go_skip | go_guarded | go_step))
  obtain ⟨hb, hz, c0, c1, c2, c3, c4, c5, c6, c7⟩ := abox w a 30
  have hfz : ∀ j, (w.alloc (.cells (acells a) 30)).frozen? ⟨w.heap.size, j, none⟩ = false := fun j => by simp [go_sem]
  generalize w.alloc (.cells (acells a) 30) = w1 at *
  have k1 : w.heap.size < w1.heap.size := by omega
  clear hz
  repeat' ((fail_if_success at_builtin); (first | go_skip | go_guarded | go_step))
  refine (P1.out w1).mono ?_
  rintro e w2 ⟨rfl, hb2⟩
  have d0 := (hb2.cell (p := ⟨w.heap.size, 0, none⟩) k1).trans c0
  have d1 := (hb2.cell (p := ⟨w.heap.size, 1, none⟩) k1).trans c1
  have d2 := (hb2.cell (p := ⟨w.heap.size, 2, none⟩) k1).trans c2
  have d3 := (hb2.cell (p := ⟨w.heap.size, 3, none⟩) k1).trans c3
  have d4 := (hb2.cell (p := ⟨w.heap.size, 4, none⟩) k1).trans c4
  have d5 := (hb2.cell (p := ⟨w.heap.size, 5, none⟩) k1).trans c5
  have d6 := (hb2.cell (p := ⟨w.heap.size, 6, none⟩) k1).trans c6
  have d7 := (hb2.cell (p := ⟨w.heap.size, 7, none⟩) k1).trans c7
  clear c0 c1 c2 c3 c4 c5 c6 c7
  have hfz := fun j => (hb2.frozen (p := ⟨w.heap.size, j, none⟩) k1).trans (hfz j)
  have hb := hb.trans (hb2.mono hb.size)
  have k2 : w.heap.size < w2.heap.size := Nat.lt_of_lt_of_le k1 hb2.size
  clear hb2 k1
  dsimp only
  by_cases hp1 : p1 = 0
  case neg =>
    have q1 : ((p1 : Int) == 0) = false := by simpa using hp1
    have HT' : badT a = true := by rw [HT]; simp [hp1]
    have he : errA l a = 1 := by unfold errA; rw [if_pos HT']
    clear hfz
    repeat' ((fail_if_success at_builtin); (first | go_skip | go_guarded | go_step))
    go_ret2
    exact ERET.out _ hb 1 he (by omega)
  subst hp1
  have q1 : (((0 : Nat) : Int) == 0) = true := rfl
  repeat' ((fail_if_success at_builtin); (first | go_skip | go_guarded | go_step))
  refine (P2.out w2).mono ?_
  rintro e w3 ⟨rfl, hb3⟩
  have c0 := (hb3.cell (p := ⟨w.heap.size, 0, none⟩) k2).trans d0
  have c1 := (hb3.cell (p := ⟨w.heap.size, 1, none⟩) k2).trans d1
  have c2 := (hb3.cell (p := ⟨w.heap.size, 2, none⟩) k2).trans d2
  have c3 := (hb3.cell (p := ⟨w.heap.size, 3, none⟩) k2).trans d3
  have c4 := (hb3.cell (p := ⟨w.heap.size, 4, none⟩) k2).trans d4
  have c5 := (hb3.cell (p := ⟨w.heap.size, 5, none⟩) k2).trans d5
  have c6 := (hb3.cell (p := ⟨w.heap.size, 6, none⟩) k2).trans d6
  have c7 := (hb3.cell (p := ⟨w.heap.size, 7, none⟩) k2).trans d7
  clear d0 d1 d2 d3 d4 d5 d6 d7
  have hfz := fun j => (hb3.frozen (p := ⟨w.heap.size, j, none⟩) k2).trans (hfz j)
  have hb := hb.trans (hb3.mono hb.size)
  have k1 : w.heap.size < w3.heap.size := Nat.lt_of_lt_of_le k2 hb3.size
  clear hb3 k2
  dsimp only
  by_cases hp2 : p2 = 0
  case neg =>
    have q1 : ((p2 : Int) == 0) = false := by simpa using hp2
    have HT' : badT a = true := by rw [HT]; simp [hp2]
    have he : errA l a = 1 := by unfold errA; rw [if_pos HT']
    clear hfz
    repeat' ((fail_if_success at_builtin); (first | go_skip | go_guarded | go_step))
    go_ret2
    exact ERET.out _ hb 1 he (by omega)
  subst hp2
  repeat' ((fail_if_success at_builtin); (first | go_skip | go_guarded | go_step))
  refine (N1.out w3).mono ?_
  rintro e w4 ⟨rfl, rfl⟩
  dsimp only
  cases bn
  case false =>
    have HT' : badT a = true := by rw [HT]; rfl
    have he : errA l a = 1 := by unfold errA; rw [if_pos HT']
    clear hfz
    repeat' ((fail_if_success at_builtin); (first | go_skip | go_guarded | go_step))
    go_ret2
    exact ERET.out _ hb 1 he (by omega)
  have HT' : ¬ badT a = true := by rw [HT]; simp
  repeat' ((fail_if_success at_builtin); (first | go_skip | go_guarded | go_step))
  refine (K1.out _).mono ?_
  rintro e w5 ⟨rfl, hb5⟩
  have d0 := (hb5.cell (p := ⟨w.heap.size, 0, none⟩) k1).trans c0
  have d1 := (hb5.cell (p := ⟨w.heap.size, 1, none⟩) k1).trans c1
  have d2 := (hb5.cell (p := ⟨w.heap.size, 2, none⟩) k1).trans c2
  have d3 := (hb5.cell (p := ⟨w.heap.size, 3, none⟩) k1).trans c3
  have d4 := (hb5.cell (p := ⟨w.heap.size, 4, none⟩) k1).trans c4
  have d5 := (hb5.cell (p := ⟨w.heap.size, 5, none⟩) k1).trans c5
  have d6 := (hb5.cell (p := ⟨w.heap.size, 6, none⟩) k1).trans c6
  have d7 := (hb5.cell (p := ⟨w.heap.size, 7, none⟩) k1).trans c7
  clear c0 c1 c2 c3 c4 c5 c6 c7
  have hfz := fun j => (hb5.frozen (p := ⟨w.heap.size, j, none⟩) k1).trans (hfz j)
  have hb := hb.trans (hb5.mono hb.size)
  have k2 : w.heap.size < w5.heap.size := Nat.lt_of_lt_of_le k1 hb5.size
  clear hb5 k1
  dsimp only
  by_cases hk : 512 < (key a).size
  case pos =>
    have he : errA l a = 3 := by unfold errA; rw [if_neg HT', if_pos hk]
    clear hfz
    repeat' ((fail_if_success at_builtin); (first | go_skip | go_guarded | go_step))
    go_ret2
    exact ERET.out _ hb 3 he (by omega)
  cases i1 : (decide (1 ≤ a.att) && decide (a.att ≤ 16))
  case false =>
    have hbr : badR a = true := by
      simp only [Bool.and_eq_false_iff, decide_eq_false_iff_not] at i1
      simp only [badR, Bool.or_eq_true, decide_eq_true_eq]
      omega
    have he : errA l a = 2 := by unfold errA; rw [if_neg HT', if_neg hk, if_pos hbr]
    have C := inside_any a.att 1 16 w5
    rw [i1] at C
    clear hfz
    repeat' ((fail_if_success at_builtin); (first | go_skip | go_guarded | go_step))
    refine C.mono ?_
    rintro e w6 ⟨rfl, rfl⟩
    dsimp only
    repeat' ((fail_if_success at_builtin); (first | go_skip | go_guarded | go_step))
    go_ret2
    exact ERET.out _ hb 2 he (by omega)
  have C := inside_any a.att 1 16 w5
  rw [i1] at C
  repeat' ((fail_if_success at_builtin); (first | go_skip | go_guarded | go_step))
  refine C.mono ?_
  rintro e w6 ⟨rfl, hww⟩
  subst hww
  dsimp only
  clear C
  cases i2 : (decide (0 ≤ a.size) && decide (a.size ≤ 1099511627776))
  case false =>
    have hbr : badR a = true := by
      simp only [Bool.and_eq_false_iff, decide_eq_false_iff_not] at i2
      simp only [badR, Bool.or_eq_true, decide_eq_true_eq]
      omega
    have he : errA l a = 2 := by unfold errA; rw [if_neg HT', if_neg hk, if_pos hbr]
    have C := inside_any a.size 0 1099511627776 w6
    rw [i2] at C
    clear hfz
    repeat' ((fail_if_success at_builtin); (first | go_skip | go_guarded | go_step))
    refine C.mono ?_
    rintro e w6 ⟨rfl, rfl⟩
    dsimp only
    repeat' ((fail_if_success at_builtin); (first | go_skip | go_guarded | go_step))
    go_ret2
    exact ERET.out _ hb 2 he (by omega)
  have C := inside_any a.size 0 1099511627776 w6
  rw [i2] at C
  repeat' ((fail_if_success at_builtin); (first | go_skip | go_guarded | go_step))
  refine C.mono ?_
  rintro e w6 ⟨rfl, hww⟩
  subst hww
  dsimp only
  clear C
  cases i3 : (decide (0 ≤ a.created) && decide (a.created ≤ 1125899906842624))
  case false =>
    have hbr : badR a = true := by
      simp only [Bool.and_eq_false_iff, decide_eq_false_iff_not] at i3
      simp only [badR, Bool.or_eq_true, decide_eq_true_eq]
      omega
    have he : errA l a = 2 := by unfold errA; rw [if_neg HT', if_neg hk, if_pos hbr]
    have C := inside_any a.created 0 1125899906842624 w6
    rw [i3] at C
    clear hfz
    repeat' ((fail_if_success at_builtin); (first | go_skip | go_guarded | go_step))
    refine C.mono ?_
    rintro e w6 ⟨rfl, rfl⟩
    dsimp only
    repeat' ((fail_if_success at_builtin); (first | go_skip | go_guarded | go_step))
    go_ret2
    exact ERET.out _ hb 2 he (by omega)
  have C := inside_any a.created 0 1125899906842624 w6
  rw [i3] at C
  repeat' ((fail_if_success at_builtin); (first | go_skip | go_guarded | go_step))
  refine C.mono ?_
  rintro e w6 ⟨rfl, hww⟩
  subst hww
  dsimp only
  clear C
  have hbr : ¬ badR a = true := by
    simp only [Bool.and_eq_true, decide_eq_true_eq] at i1 i2 i3
    simp only [badR, Bool.or_eq_true, decide_eq_true_eq]
    omega
  have hw : IntKind.i64.wrap (a.created + 604800000) = a.created + 604800000 := by
    simp only [Bool.and_eq_true, decide_eq_true_eq] at i3
    exact IntWalk.i64_in _ (by omega)
  clear i1 i2 i3 q1 P1 P2 N1 K1
  repeat' ((fail_if_success at_builtin); (first | go_skip | go_guarded | go_step))
  refine (F1.out w6 hb).mono ?_
  rintro e w7 ⟨rfl, hb7⟩
  have c0 := (hb7.cell (p := ⟨w.heap.size, 0, none⟩) k2).trans d0
  have c1 := (hb7.cell (p := ⟨w.heap.size, 1, none⟩) k2).trans d1
  have c2 := (hb7.cell (p := ⟨w.heap.size, 2, none⟩) k2).trans d2
  have c3 := (hb7.cell (p := ⟨w.heap.size, 3, none⟩) k2).trans d3
  have c4 := (hb7.cell (p := ⟨w.heap.size, 4, none⟩) k2).trans d4
  have c5 := (hb7.cell (p := ⟨w.heap.size, 5, none⟩) k2).trans d5
  have c6 := (hb7.cell (p := ⟨w.heap.size, 6, none⟩) k2).trans d6
  have c7 := (hb7.cell (p := ⟨w.heap.size, 7, none⟩) k2).trans d7
  clear d0 d1 d2 d3 d4 d5 d6 d7
  have hfz := fun j => (hb7.frozen (p := ⟨w.heap.size, j, none⟩) k2).trans (hfz j)
  have hb := hb.trans (hb7.mono hb.size)
  clear hb7 k2
  dsimp only
  by_cases hf : 0 ≤ fi
  case pos =>
    have he : errA l a = 7 := by unfold errA; rw [if_neg HT', if_neg hk, if_neg hbr, hfi, if_pos hf]
    clear hfz
    repeat' ((fail_if_success at_builtin); (first | go_skip | go_guarded | go_step))
    go_ret2
    exact ERET.out _ hb 7 he (by omega)
  by_cases hfull : 4096 ≤ l.length
  case pos =>
    have he : errA l a = 21 := by unfold errA; rw [if_neg HT', if_neg hk, if_neg hbr, hfi, if_neg hf, if_pos hfull]
    clear hfz
    repeat' ((fail_if_success at_builtin); (first | go_skip | go_guarded | go_step))
    go_ret2
    exact ERET.out _ hb 21 he (by omega)
  have he : errA l a = 0 := by unfold errA; rw [if_neg HT', if_neg hk, if_neg hbr, hfi, if_neg hf, if_neg hfull]
  have f7 := hfz 7
  clear hfz
  have hsq := Lib.hid ((hs.out.below (hb.mono hB)).below (Below.setCell (Below.refl B w7) (p := ⟨w.heap.size, 7, none⟩) hB (.int .i64 (a.created + 604800000))))
  have hbs := hb.setCell (p := ⟨w.heap.size, 7, none⟩) (Nat.le_refl _) (.int .i64 (a.created + 604800000))
  repeat' ((fail_if_success at_builtin); (first | go_skip | go_guarded | go_step))
  refine wp_appS (Own.up hbs (Own.nil_ _ _ _)) Tryd.underlying22 art_info hsq.out (acl_one l) (by omega) ?_
  intro v8 w8 h8 hg8
  have kk : w.heap.size < (w7.setCell ⟨w.heap.size, 7, none⟩ (.int .i64 (a.created + 604800000))).heap.size := by
    have := World.block_lt_of_cell? w7 _ c0
    simpa [World.setCell] using this
  have d0 : w8.cell? ⟨w.heap.size, 0, none⟩ = some (.string a.run) := (hg8.cell (p := ⟨w.heap.size, 0, none⟩) kk (by simp [Value.ownBlock])).trans (by simp [go_sem, c0])
  have d1 : w8.cell? ⟨w.heap.size, 1, none⟩ = some (.string a.job) := (hg8.cell (p := ⟨w.heap.size, 1, none⟩) kk (by simp [Value.ownBlock])).trans (by simp [go_sem, c1])
  have d2 : w8.cell? ⟨w.heap.size, 2, none⟩ = some (.int .i64 a.att) := (hg8.cell (p := ⟨w.heap.size, 2, none⟩) kk (by simp [Value.ownBlock])).trans (by simp [go_sem, c2])
  have d3 : w8.cell? ⟨w.heap.size, 3, none⟩ = some (.string a.nm) := (hg8.cell (p := ⟨w.heap.size, 3, none⟩) kk (by simp [Value.ownBlock])).trans (by simp [go_sem, c3])
  have d4 : w8.cell? ⟨w.heap.size, 4, none⟩ = some (.int .u64 a.dig) := (hg8.cell (p := ⟨w.heap.size, 4, none⟩) kk (by simp [Value.ownBlock])).trans (by simp [go_sem, c4])
  have d5 : w8.cell? ⟨w.heap.size, 5, none⟩ = some (.int .i64 a.size) := (hg8.cell (p := ⟨w.heap.size, 5, none⟩) kk (by simp [Value.ownBlock])).trans (by simp [go_sem, c5])
  have d6 : w8.cell? ⟨w.heap.size, 6, none⟩ = some (.int .i64 a.created) := (hg8.cell (p := ⟨w.heap.size, 6, none⟩) kk (by simp [Value.ownBlock])).trans (by simp [go_sem, c6])
  have d7 : w8.cell? ⟨w.heap.size, 7, none⟩ = some (.int .i64 (a.created + 604800000)) := (hg8.cell (p := ⟨w.heap.size, 7, none⟩) kk (by simp [Value.ownBlock])).trans (by simp [go_sem, c7])
  rw [Nat.zero_add, List.nil_append] at h8
  have hb8 : (l.length + 1) * 88 ≤ 140737488355328 := by omega
  clear hg8 hsq c0 c1 c2 c3 c4 c5 c6 c7
  repeat' ((fail_if_success at_builtin); (first | go_skip | go_guarded | go_step))
  refine wp_app1 h8 Tryd.underlying22 art_info hb8 ?_
  intro v9 w9 h9 _
  repeat' ((fail_if_success at_builtin); (first | go_skip | go_guarded | go_step))
  obtain ⟨A9, c9, rfl⟩ := h9.slice_form
  go_ret2
  have e1 : putA l a = l ++ [stored a] := by unfold putA; rw [if_pos he]
  have h6 : Own w w9 30 8 (.slice A9 (l.length + 1) c9) (l.length + 1) ((l ++ [stored a]).flatMap acl) := by
    rw [List.flatMap_append, List.flatMap_cons, List.flatMap_nil, List.append_nil]
    exact h9
  have hsq := h6.seq
  refine ⟨A9, c9, ?_, ?_, h6.nilcap, h6.2⟩
  · rw [e1, he, List.length_append]; rfl
  · rw [e1]; unfold SeqA; rw [List.length_append]; exact hsq
end Go.Proofs.YtclinbpkcmcokaaDoor
