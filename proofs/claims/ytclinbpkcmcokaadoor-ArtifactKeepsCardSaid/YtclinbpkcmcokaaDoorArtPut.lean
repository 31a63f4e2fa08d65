/- Put, on both sides: the calls themselves. -/
import Derived.Test.YtclinbpkcmcokaaDoorChk
namespace Go.Proofs.YtclinbpkcmcokaaDoor
open Go.RowKit
def stored (a : Art) : Art := { a with expires := a.created + 604800000 }
def putA (l : List Art) (a : Art) : List Art := if errA l a = 0 then l ++ [stored a] else l
theorem Own.setOther {W0 w : World} {e : TypeId} {size n : Nat} {v : Value} {xs : List Value} (H : Own W0 w e size v n xs) {b : Nat} (j : Nat) (u : Value) (hW : W0.heap.size ≤ b) (hne : some b ≠ v.ownBlock) : Own W0 (w.setCell ⟨b, j, none⟩ u) e size v n xs :=
  ⟨H.1.kept (row := some b) ⟨rfl, rfl, rfl, by simp [World.setCell], fun k _ hk => by
    have : b ≠ k := fun h => hk (by rw [h])
    simp [World.setCell, Array.getElem?_modify, this]⟩ (.inr fun h => hne h.symm), H.2.setCell hW u⟩
def RetArts (w : World) (l : List Art) (n : Nat) (e : Ending) (w' : World) : Prop := ∃ A c, e = .returned (.tuple #[.slice A l.length c, .int .i64 (n : Int)]) ∧ SeqA w' w'.heap.size A l ∧ (A = none → c = 0) ∧ Below w.heap.size w w'
def RetOwn (w : World) (l : List Art) (n : Nat) (e : Ending) (w' : World) : Prop := ∃ A c, e = .returned (.tuple #[.slice A l.length c, .int .i64 (n : Int)]) ∧ OwnA w w' (.slice A l.length c) l
theorem errA_range {l : List Art} {a : Art} (h : errA l a = 0) : badR a = false := by
  unfold errA at h
  cases hr : badR a with
  | false => rfl
  | true =>
    rw [hr] at h
    repeat' split at h
    all_goals first | omega | contradiction
set_option maxRecDepth 100000 in
set_option maxHeartbeats 800000 in
theorem put_own (l : List Art) (a : Art) (A : Option Addr) (c : Nat) (w : World) (B : Nat) (hR : Ready w) (hB : B ≤ w.heap.size) (hnil : A = none → c = 0) (hs : SeqA w B A l) (hl : l.length ≤ 1000000) (hsh : ∀ a ∈ l, Shrt a) (ha : Shrt a) :
    Calls Tryd.prog 10 #[.slice A l.length c, .agg (acells a)] w (RetOwn w (putA l a) (errA l a)) := by
  go_enter Tryd.func10, Tryd.ntmps10
  repeat' ((fail_if_success at_builtin); (first | go_skip | go_guarded | go_step))
  obtain ⟨hb, hz, c0, c1, c2, c3, c4, c5, c6, c7⟩ := abox w a 30
  have hfz : ∀ j, (w.alloc (.cells (acells a) 30)).frozen? ⟨w.heap.size, j, none⟩ = false := fun j => by simp [go_sem]
  generalize w.alloc (.cells (acells a) 30) = w1 at *
  have k1 : w.heap.size < w1.heap.size := by omega
  repeat' ((fail_if_success at_builtin); (first | go_skip | go_guarded | go_step))
  refine (clone_any A c l w1 B hnil (hs.below (hb.mono hB)) hl (Nat.le_trans hB hb.size)).mono ?_
  rintro e w2 ⟨A2, cc2, rfl, h2⟩
  have hb2 := h2.2
  have hgA : some w.heap.size ≠ (Value.slice A2 l.length cc2).ownBlock := Own.old h2 k1
  have h2 := h2.up hb
  have hRb := hR.below h2.2
  have d0 := (hb2.cell (p := ⟨w.heap.size, 0, none⟩) k1).trans c0
  have d1 := (hb2.cell (p := ⟨w.heap.size, 1, none⟩) k1).trans c1
  have d2 := (hb2.cell (p := ⟨w.heap.size, 2, none⟩) k1).trans c2
  have d3 := (hb2.cell (p := ⟨w.heap.size, 3, none⟩) k1).trans c3
  have d4 := (hb2.cell (p := ⟨w.heap.size, 4, none⟩) k1).trans c4
  have d5 := (hb2.cell (p := ⟨w.heap.size, 5, none⟩) k1).trans c5
  have d6 := (hb2.cell (p := ⟨w.heap.size, 6, none⟩) k1).trans c6
  have d7 := (hb2.cell (p := ⟨w.heap.size, 7, none⟩) k1).trans c7
  clear c0 c1 c2 c3 c4 c5 c6 c7
  have hfz2 := fun j => (hb2.frozen (p := ⟨w.heap.size, j, none⟩) k1).trans (hfz j)
  have k2 : w.heap.size < w2.heap.size := Nat.lt_of_lt_of_le k1 hb2.size
  clear hfz hb2 hb hz k1
  have C := check_any l a A2 cc2 w2 w2.heap.size hRb (Nat.le_refl _) h2.seq hl hsh ha
  replace C := Lib.hid C
  clear hs hsh hR hRb
  dsimp only
  repeat' ((fail_if_success at_builtin); (first | go_skip | go_guarded | go_step))
  refine C.out.mono ?_
  rintro e w3 ⟨rfl, hb3⟩
  have h3 := h2.below hb3
  have c0 := (hb3.cell (p := ⟨w.heap.size, 0, none⟩) k2).trans d0
  have c1 := (hb3.cell (p := ⟨w.heap.size, 1, none⟩) k2).trans d1
  have c2 := (hb3.cell (p := ⟨w.heap.size, 2, none⟩) k2).trans d2
  have c3 := (hb3.cell (p := ⟨w.heap.size, 3, none⟩) k2).trans d3
  have c4 := (hb3.cell (p := ⟨w.heap.size, 4, none⟩) k2).trans d4
  have c5 := (hb3.cell (p := ⟨w.heap.size, 5, none⟩) k2).trans d5
  have c6 := (hb3.cell (p := ⟨w.heap.size, 6, none⟩) k2).trans d6
  have c7 := (hb3.cell (p := ⟨w.heap.size, 7, none⟩) k2).trans d7
  clear d0 d1 d2 d3 d4 d5 d6 d7
  have hfz3 := fun j => (hb3.frozen (p := ⟨w.heap.size, j, none⟩) k2).trans (hfz2 j)
  have k3 : w.heap.size < w3.heap.size := Nat.lt_of_lt_of_le k2 hb3.size
  clear hfz2 hb3 k2 h2
  dsimp only
  by_cases he : errA l a = 0
  · have hr := errA_range he
    simp only [badR, Bool.or_eq_false_iff, decide_eq_false_iff_not] at hr
    obtain ⟨⟨⟨⟨⟨r1, r2⟩, r3⟩, r4⟩, r5⟩, r6⟩ := hr
    have hq : ((errA l a : Nat) : Int) = 0 := by omega
    have f7 := hfz3 7
    clear hfz3
    have hw : IntKind.i64.wrap (a.created + 604800000) = a.created + 604800000 := IntWalk.i64_in _ (by omega)
    have h4 := h3.setOther 7 (.int .i64 (a.created + 604800000)) (Nat.le_refl _) hgA
    have hb4 : (l.length + 1) * 88 ≤ 140737488355328 := by omega
    repeat' ((fail_if_success at_builtin); (first | go_skip | go_guarded | go_step))
    refine wp_app1 h4 Tryd.underlying22 art_info hb4 ?_
    intro v5 w5 h5 _
    repeat' ((fail_if_success at_builtin); (first | go_skip | go_guarded | go_step))
    obtain ⟨A5, c5', rfl⟩ := h5.slice_form
    go_ret2
    have e1 : putA l a = l ++ [stored a] := by unfold putA; rw [if_pos he]
    have h6 : Own w w5 30 8 (.slice A5 (l.length + 1) c5') (l.length + 1) ((l ++ [stored a]).flatMap acl) := by
      rw [List.flatMap_append, List.flatMap_cons, List.flatMap_nil, List.append_nil]
      exact h5
    refine ⟨A5, c5', ?_, ?_⟩
    · rw [e1, he, List.length_append]; rfl
    · rw [e1]; unfold OwnA; rw [List.length_append]; exact h6
  · have hq : ¬ (((errA l a : Nat) : Int) = 0) := by omega
    repeat' ((fail_if_success at_builtin); (first | go_skip | go_guarded | go_step))
    go_ret2
    refine ⟨A2, cc2, ?_, ?_⟩
    · unfold putA; rw [if_neg he]; rfl
    · unfold putA; rw [if_neg he]; exact h3
theorem put_any (l : List Art) (a : Art) (A : Option Addr) (c : Nat) (w : World) (B : Nat) (hR : Ready w) (hB : B ≤ w.heap.size) (hnil : A = none → c = 0) (hs : SeqA w B A l) (hl : l.length ≤ 1000000) (hsh : ∀ a ∈ l, Shrt a) (ha : Shrt a) :
    Calls Tryd.prog 10 #[.slice A l.length c, .agg (acells a)] w (RetArts w (putA l a) (errA l a)) := by
  refine (put_own l a A c w B hR hB hnil hs hl hsh ha).mono ?_
  rintro e w' ⟨A2, c2, rfl, h⟩
  exact ⟨A2, c2, rfl, h.seq, h.nilcap, h.2⟩
set_option maxRecDepth 100000 in
set_option maxHeartbeats 800000 in
theorem rpath_any (s : ByteArray) (w : World) (hm : s.size ≤ 1000000) : Calls Tryd.prog 24 #[.string s] w fun e w' => e = .returned (.bool ((pathE s.data.toList : Int) == 0)) ∧ Below w.heap.size w w' := by
  go_enter Tryd.func24, Tryd.ntmps24
  repeat' ((fail_if_success at_builtin); (first | go_skip | go_guarded | go_step))
  refine (refParts_any s w (by omega)).mono ?_
  rintro e w1 ⟨⟨v, rfl⟩, hb⟩
  dsimp only
  repeat' ((fail_if_success at_builtin); (first | go_skip | go_guarded | go_step))
  go_ret
  exact ⟨rfl, hb⟩
set_option maxRecDepth 100000 in
set_option maxHeartbeats 800000 in
theorem inside_any (n lo hi : Int) (w : World) : Calls Tryd.prog 26 #[.int .i64 n, .int .i64 lo, .int .i64 hi] w fun e w' => e = .returned (.bool (decide (lo ≤ n) && decide (n ≤ hi))) ∧ w' = w := by
  go_enter Tryd.func26, Tryd.ntmps26
  repeat' ((fail_if_success at_builtin); (first | go_skip | go_guarded | go_step))
  all_goals go_ret
  all_goals refine ⟨ret_b ?_, rfl⟩
  all_goals rw [Bool.eq_iff_iff]
  all_goals simp
  all_goals omega
end Go.Proofs.YtclinbpkcmcokaaDoor
