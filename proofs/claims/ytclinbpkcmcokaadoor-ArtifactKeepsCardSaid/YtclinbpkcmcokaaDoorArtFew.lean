/- Small calls: Same, short, few. -/
import Derived.Test.YtclinbpkcmcokaaDoorArtGet
namespace Go.Proofs.YtclinbpkcmcokaaDoor
open Go.RowKit
set_option maxRecDepth 100000 in
set_option maxHeartbeats 800000 in
theorem same_any (l : List Art) (A1 A2 : Option Addr) (c1 c2 : Nat) (w : World) (B1 B2 : Nat) (hB1 : B1 ≤ w.heap.size) (hB2 : B2 ≤ w.heap.size) (hs1 : Seq w B1 8 A1 l.length (l.flatMap acl)) (hs2 : Seq w B2 8 A2 l.length (l.flatMap acl)) (hl : l.length ≤ 1000000) :
    Calls Tryd.prog 12 #[.slice A1 l.length c1, .slice A2 l.length c2] w fun e w' => e = .returned (.bool true) ∧ Below w.heap.size w w' := by
  go_enter Tryd.func12, Tryd.ntmps12
  repeat' ((fail_if_success at_builtin); (first | go_skip | go_guarded | go_step))
  go_loopw [5] (fun u5 wr => ∃ i : Nat, i ≤ l.length ∧ u5 = .int .i64 (i : Int) ∧ Below w.heap.size w wr) (fun u5 _ => l.length - (intOf u5).toNat)
  case atStart => exact ⟨0, by omega, rfl, Below.refl _ _⟩
  case round =>
    obtain ⟨i, hi, rfl, hbr⟩ := hrel
    by_cases hlt : i < l.length
    · skip
      obtain ⟨b1, o1, rfl, hb1, hcell1⟩ := hs1.2 (by omega)
      obtain ⟨b2, o2, rfl, hb2, hcell2⟩ := hs2.2 (by omega)
      have hci : l[i]? = some l[i] := List.getElem?_eq_getElem hlt
      have hc1 := fun j u hu => (hbr.cell (p := ⟨b1, o1 + (i * 8 + j), none⟩) (by dsimp only; omega)).trans (hcell1 (i * 8 + j) u (flat_at acl_len hci hu))
      have hc2 := fun j u hu => (hbr.cell (p := ⟨b2, o2 + (i * 8 + j), none⟩) (by dsimp only; omega)).trans (hcell2 (i * 8 + j) u (flat_at acl_len hci hu))
      clear hcell1 hcell2 hci
      generalize l[i] = x at *
      have e0 := hc1 0 _ rfl
      have g0 := hc2 0 _ rfl
      have e1 := hc1 1 _ rfl
      have g1 := hc2 1 _ rfl
      have e2 := hc1 2 _ rfl
      have g2 := hc2 2 _ rfl
      have e3 := hc1 3 _ rfl
      have g3 := hc2 3 _ rfl
      have e4 := hc1 4 _ rfl
      have g4 := hc2 4 _ rfl
      have e5 := hc1 5 _ rfl
      have g5 := hc2 5 _ rfl
      have e6 := hc1 6 _ rfl
      have g6 := hc2 6 _ rfl
      have e7 := hc1 7 _ rfl
      have g7 := hc2 7 _ rfl
      simp only [← Nat.add_assoc, Nat.add_zero] at e0 g0 e1 g1 e2 g2 e3 g3 e4 g4 e5 g5 e6 g6 e7 g7
      clear hc1 hc2
      have i0 : (0 : Int) ≤ (i : Int) := by omega
      have i1 : (i : Int) < (l.length : Int) := by omega
      repeat' ((fail_if_success at_builtin); (first | go_skip | go_guarded | go_step))
      go_quiet (fail)
      repeat' ((fail_if_success at_builtin); (first | go_skip | go_guarded | go_step))
      go_roundw
      case rel => exact ⟨i + 1, by omega, by go_num, hbr.trans (Below.mono (below_drewN _ _) hbr.size)⟩
      case measure => simp [intOf]; omega
    · repeat' ((fail_if_success at_builtin); (first | go_skip | go_guarded | go_step))
      go_ret
      exact ⟨rfl, hbr⟩
set_option maxRecDepth 100000 in
set_option maxHeartbeats 800000 in
theorem short_any (a : Art) (w : World) (h1 : a.run.size ≤ 9223372036854775807) (h2 : a.job.size ≤ 9223372036854775807) (h3 : a.nm.size ≤ 9223372036854775807) : Calls Tryd.prog 8 #[.agg (acells a)] w fun e w' => e = .returned (.bool (decide (a.run.size ≤ 600 ∧ a.job.size ≤ 600 ∧ a.nm.size ≤ 600))) ∧ Below w.heap.size w w' := by
  go_enter Tryd.func8, Tryd.ntmps8
  repeat' ((fail_if_success at_builtin); (first | go_skip | go_guarded | go_step))
  all_goals go_ret
  all_goals refine ⟨ret_b ?_, (abox w a _).1⟩
  all_goals rw [Bool.eq_iff_iff]
  all_goals simp
  all_goals omega
def isShort (a : Art) : Bool := decide (a.run.size ≤ 600 ∧ a.job.size ≤ 600 ∧ a.nm.size ≤ 600)
/-- texts of a machine's sizes -/
def Text (a : Art) : Prop := a.run.size ≤ 9223372036854775807 ∧ a.job.size ≤ 9223372036854775807 ∧ a.nm.size ≤ 9223372036854775807
def fewA (l : List Art) : Bool := decide (l.length ≤ 25) && l.all isShort
set_option maxRecDepth 100000 in
set_option maxHeartbeats 800000 in
theorem few_any (l : List Art) (A : Option Addr) (c : Nat) (w : World) (B : Nat) (hB : B ≤ w.heap.size) (hs : SeqA w B A l) (hl : l.length ≤ 9223372036854775807) (ht : ∀ a ∈ l, Text a) :
    Calls Tryd.prog 7 #[.slice A l.length c] w fun e w' => e = .returned (.bool (fewA l)) ∧ Below w.heap.size w w' := by
  have Ht := Lib.hid ht
  clear ht
  go_enter Tryd.func7, Tryd.ntmps7
  repeat' ((fail_if_success at_builtin); (first | go_skip | go_guarded | go_step))
  go_loopw [3] (fun u3 wr => ∃ i : Nat, i ≤ l.length ∧ i ≤ 25 ∧ u3 = .int .i64 (i : Int) ∧ Below w.heap.size w wr ∧ l.all isShort = (l.drop i).all isShort) (fun u3 _ => l.length - (intOf u3).toNat)
  case atStart => exact ⟨0, by omega, by omega, rfl, Below.refl _ _, rfl⟩
  case round =>
    obtain ⟨i, hi, hi2, rfl, hbr, hall⟩ := hrel
    by_cases hlt : i < l.length
    · by_cases h25 : i < 25
      · have ht := Ht.out l[i] (List.getElem_mem hlt)
        obtain ⟨b, o, rfl, hbB, hcell⟩ := hs.2 (by omega)
        have hci : l[i]? = some l[i] := List.getElem?_eq_getElem hlt
        have hcell' := fun j u hu => (hbr.cell (p := ⟨b, o + (i * 8 + j), none⟩) (by dsimp only; omega)).trans (hcell (i * 8 + j) u (flat_at acl_len hci hu))
        clear hcell
        generalize l[i] = x at *
        have e0 := hcell' 0 _ rfl
        have e1 := hcell' 1 _ rfl
        have e2 := hcell' 2 _ rfl
        have e3 := hcell' 3 _ rfl
        have e4 := hcell' 4 _ rfl
        have e5 := hcell' 5 _ rfl
        have e6 := hcell' 6 _ rfl
        have e7 := hcell' 7 _ rfl
        simp only [← Nat.add_assoc, Nat.add_zero] at e0 e1 e2 e3 e4 e5 e6 e7
        clear hcell'
        have i0 : (0 : Int) ≤ (i : Int) := by omega
        have i1 : (i : Int) < (l.length : Int) := by omega
        rw [all_at hci] at hall
        clear hci
        have hall := Lib.hid hall
        repeat' ((fail_if_success at_builtin); (first | go_skip | go_guarded | go_step))
        refine (short_any x wr ht.1 ht.2.1 ht.2.2).mono ?_
        rintro e w7 ⟨rfl, hb7⟩
        have hbb := hbr.trans (hb7.mono hbr.size)
        have hsx : decide (x.run.size ≤ 600 ∧ x.job.size ≤ 600 ∧ x.nm.size ≤ 600) = isShort x := rfl
        rw [hsx]
        dsimp only
        cases hv : isShort x with
        | true =>
          have hall := hall.out
          rw [hv, Bool.true_and] at hall
          repeat' ((fail_if_success at_builtin); (first | go_skip | go_guarded | go_step))
          go_roundw
          case rel => exact ⟨i + 1, by omega, by omega, by go_num, hbb, hall⟩
          case measure => simp [intOf]; omega
        | false =>
          have hf : fewA l = false := by unfold fewA; rw [hall.out, hv, Bool.false_and, Bool.and_false]
          repeat' ((fail_if_success at_builtin); (first | go_skip | go_guarded | go_step))
          go_ret
          exact ⟨by rw [hf]; rfl, hbb⟩
      · have hf : fewA l = false := by unfold fewA; rw [decide_eq_false (by omega), Bool.false_and]
        repeat' ((fail_if_success at_builtin); (first | go_skip | go_guarded | go_step))
        go_ret
        exact ⟨ret_b (by rw [hf]; simp; omega), hbr⟩
    · rw [all_end (by omega)] at hall
      have hf : fewA l = true := by unfold fewA; rw [decide_eq_true (by omega), hall]; rfl
      repeat' ((fail_if_success at_builtin); (first | go_skip | go_guarded | go_step))
      go_ret
      exact ⟨ret_b (by rw [hf]; simp; omega), hbr⟩
def madeA (s : ByteArray) : Art := ⟨⟨#[114]⟩, ⟨#[98, 117, 105, 108, 100]⟩, 1, s, 5, 9, 0, 0⟩
set_option maxRecDepth 100000 in
set_option maxHeartbeats 800000 in
theorem made_any (s : ByteArray) (w : World) : Calls Tryd.prog 13 #[.string s] w fun e w' => e = .returned (.agg (acells (madeA s))) ∧ Below w.heap.size w w' := by
  go_enter Tryd.func13, Tryd.ntmps13
  repeat' ((fail_if_success at_builtin); (first | go_skip | go_guarded | go_step))
  refine bodyPost_ret (v := .agg (acells (madeA s))) ?_ rfl ?_
  · simp only [results, Tryd.results13]
    go_simp
    exact ⟨rfl, rfl, rfl, rfl, rfl, rfl, rfl, rfl⟩
  · refine ⟨rfl, ?_⟩
    generalize hw0 : w.alloc _ = w0
    have hb : Below w.heap.size w w0 := by rw [← hw0]; exact (Below.refl w.heap.size w).alloc (Nat.le_refl _) _
    clear hw0
    repeat (refine Below.setCell ?_ (Nat.le_refl _) _)
    exact hb
def bin : ByteArray := ⟨#[98, 105, 110]⟩
def bbin : ByteArray := ⟨#[98, 117, 105, 108, 100, 47, 98, 105, 110]⟩
theorem aw_err : errA [] (madeA bin) = 0 := by decide +kernel
theorem aw_put : putA [] (madeA bin) = [stored (madeA bin)] := by unfold putA; rw [aw_err]; rfl
theorem aw_find : [stored (madeA bin)].findIdx? (hit ⟨#[114]⟩ bbin) = some 0 := by decide +kernel
theorem aw_get1 : getA [stored (madeA bin)] ⟨#[114]⟩ bbin 604799999 = (stored (madeA bin), 0) := by unfold getA; rw [aw_find]; rfl
theorem aw_get2 : getA [stored (madeA bin)] ⟨#[114]⟩ bbin 604800000 = (zeroA, 20) := by unfold getA; rw [aw_find]; rfl
theorem aw_err2 : errA [stored (madeA bin)] (madeA bin) = 7 := by decide +kernel
end Go.Proofs.YtclinbpkcmcokaaDoor
