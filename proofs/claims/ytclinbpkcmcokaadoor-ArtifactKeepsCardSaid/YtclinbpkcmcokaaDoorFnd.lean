/- find, on both sides. -/
import Derived.Test.YtclinbpkcmcokaaDoorArt
namespace Go.Proofs.YtclinbpkcmcokaaDoor
open Go.RowKit
/-- a slice of artifacts below block B -/
abbrev SeqA (w : World) (B : Nat) (A : Option Addr) (l : List Art) : Prop := Seq w B 8 A l.length (l.flatMap acl)
set_option maxRecDepth 100000 in
set_option maxHeartbeats 800000 in
theorem find_any (run s : ByteArray) (l : List Art) (A : Option Addr) (c : Nat) (w : World) (B : Nat) (hB : B ≤ w.heap.size) (hs : SeqA w B A l) (hl : l.length ≤ 1000000) (hsh : ∀ a ∈ l, Shrt a) :
    Calls Tryd.prog 30 #[.slice A l.length c, .string run, .string s] w fun e w' => e = .returned (.int .i64 (fnd run s l)) ∧ Below w.heap.size w w' := by
  have hb1 := (Below.refl w.heap.size w).alloc (Nat.le_refl _) (.cells #[.string run] 9)
  have hb2 := hb1.alloc hb1.size (.cells #[.string s] 9)
  have C := idx_any run s l A c _ B w.heap.size (w.heap.size + 1) (Nat.le_trans hB hb2.size) (hs.below (hb2.mono hB)) hl hsh (by simp; omega) (by simp) (by simp [go_sem]) (by simp [go_sem])
  replace C := Lib.hid C
  clear hs hsh
  go_enter Tryd.func30, Tryd.ntmps30
  repeat' ((fail_if_success at_builtin); (first | go_skip | go_guarded | go_step))
  refine C.out.mono ?_
  rintro e w3 ⟨rfl, hb3⟩
  have hbb := hb2.trans (hb3.mono hb2.size)
  dsimp only
  repeat' ((fail_if_success at_builtin); (first | go_skip | go_guarded | go_step))
  go_ret
  exact ⟨rfl, hbb⟩
set_option maxRecDepth 100000 in
set_option maxHeartbeats 800000 in
theorem rfind_any (run s : ByteArray) (l : List Art) (A : Option Addr) (c : Nat) (w : World) (B : Nat) (hB : B ≤ w.heap.size) (hs : SeqA w B A l) (hl : l.length ≤ 1000000) (hsh : ∀ a ∈ l, Shrt a) :
    Calls Tryd.prog 27 #[.slice A l.length c, .string run, .string s] w fun e w' => e = .returned (.int .i64 (fnd run s l)) ∧ Below w.heap.size w w' := by
  have Hsh := Lib.hid hsh
  clear hsh
  go_enter Tryd.func27, Tryd.ntmps27
  repeat' ((fail_if_success at_builtin); (first | go_skip | go_guarded | go_step))
  go_loopw [7] (fun u7 wr => ∃ i : Nat, i ≤ l.length ∧ u7 = .int .i64 (i : Int) ∧ Below w.heap.size w wr ∧ ∀ j y, j < i → l[j]? = some y → hit run s y = false) (fun u7 _ => l.length - (intOf u7).toNat)
  case atStart => exact ⟨0, by omega, rfl, Below.refl _ _, fun j y hj => absurd hj (by omega)⟩
  case round =>
    obtain ⟨i, hi, rfl, hbr, hno⟩ := hrel
    by_cases hlt : i < l.length
    · have hsh := Hsh.out l[i] (List.getElem_mem hlt)
      obtain ⟨b, o, rfl, hbB, hcell⟩ := hs.2 (by omega)
      have hci : l[i]? = some l[i] := List.getElem?_eq_getElem hlt
      have hcell' := fun j u hu => (hbr.cell (p := ⟨b, o + (i * 8 + j), none⟩) (by dsimp only; omega)).trans (hcell (i * 8 + j) u (flat_at acl_len hci hu))
      clear hcell
      generalize l[i] = x at *
      have e0 := hcell' 0 _ rfl
      have e1 := hcell' 1 _ rfl
      have e2 := hcell' 2 _ rfl
      have e3 := hcell' 3 _ rfl
      have e4 := hcell' 4 _ rfl
      have e5 := hcell' 5 _ rfl
      have e6 := hcell' 6 _ rfl
      have e7 := hcell' 7 _ rfl
      simp only [← Nat.add_assoc, Nat.add_zero] at e0 e1 e2 e3 e4 e5 e6 e7
      clear hcell'
      have i0 : (0 : Int) ≤ (i : Int) := by omega
      have i1 : (i : Int) < (l.length : Int) := by omega
      have hn2 : hit run s x = false → ∀ j y, j < i + 1 → l[j]? = some y → hit run s y = false := by
        intro hx j y hj hy
        by_cases h : j < i
        · exact hno j y h hy
        · obtain rfl : j = i := by omega
          rw [hci] at hy; cases hy; exact hx
      have hf2 : hit run s x = true → fnd run s l = i := fun hx => fnd_some hci hx hno
      replace hn2 := Lib.hid hn2
      replace hf2 := Lib.hid hf2
      clear hno hci
      have C := fun w' => rname_any x.run x.job x.nm w' hsh.2.1 hsh.2.2
      have hbw : b < wr.heap.size := by have := hbr.size; omega
      repeat' ((fail_if_success at_builtin); (first | go_skip | go_guarded | go_step))
      cases hv : (x.run.toList == run.toList) with
      | false =>
        go_cut [37] (fun u37 wx => Below w.heap.size w wx ∧ u37 = .bool false)
        case first =>
          go_quiet (fail)
          repeat' ((fail_if_success at_builtin); (first | go_skip | go_guarded | go_step))
          go_meet
          case rel => exact ⟨hbr.trans (Below.mono (below_drewN _ _) hbr.size), rfl⟩
        case rest =>
          obtain ⟨hbx, rfl⟩ := hcut
          clear e0 e1 e2 e3 e4 e5 e6 e7
          have hh : hit run s x = false := by unfold hit; rw [hv]; rfl
          repeat' ((fail_if_success at_builtin); (first | go_skip | go_guarded | go_step))
          go_roundw
          case rel => exact ⟨i + 1, by omega, by go_num, hbx, hn2.out hh⟩
          case measure => simp [intOf]; omega
      | true =>
        go_cut [37] (fun u37 wx => Below w.heap.size w wx ∧ u37 = .bool (hit run s x))
        case first =>
          go_region_held3 (fun w' => Below wr.heap.size wr w' ∧ w'.cell? ⟨b, o + i * 8, none⟩ = some (.string x.run) ∧ w'.cell? ⟨b, o + i * 8 + 1, none⟩ = some (.string x.job) ∧ w'.cell? ⟨b, o + i * 8 + 2, none⟩ = some (.int .i64 x.att) ∧ w'.cell? ⟨b, o + i * 8 + 3, none⟩ = some (.string x.nm) ∧ w'.cell? ⟨b, o + i * 8 + 4, none⟩ = some (.int .u64 x.dig) ∧ w'.cell? ⟨b, o + i * 8 + 5, none⟩ = some (.int .i64 x.size) ∧ w'.cell? ⟨b, o + i * 8 + 6, none⟩ = some (.int .i64 x.created) ∧ w'.cell? ⟨b, o + i * 8 + 7, none⟩ = some (.int .i64 x.expires))
            (first | exact ⟨(Below.refl _ _).drew, e0, e1, e2, e3, e4, e5, e6, e7⟩ | exact ⟨(Below.refl _ _).drew.trans (hbq.mono (Nat.le_refl _)), (hbq.cell (p := ⟨b, o + i * 8, none⟩) hbw).trans e0, (hbq.cell (p := ⟨b, o + i * 8 + 1, none⟩) hbw).trans e1, (hbq.cell (p := ⟨b, o + i * 8 + 2, none⟩) hbw).trans e2, (hbq.cell (p := ⟨b, o + i * 8 + 3, none⟩) hbw).trans e3, (hbq.cell (p := ⟨b, o + i * 8 + 4, none⟩) hbw).trans e4, (hbq.cell (p := ⟨b, o + i * 8 + 5, none⟩) hbw).trans e5, (hbq.cell (p := ⟨b, o + i * 8 + 6, none⟩) hbw).trans e6, (hbq.cell (p := ⟨b, o + i * 8 + 7, none⟩) hbw).trans e7⟩)
            (first | (go_at_call 15; refine (C _).mono ?_; rintro e w7 ⟨rfl, hbq⟩; dsimp only))
          all_goals
            repeat' ((fail_if_success at_builtin); (first | go_skip | go_guarded | go_step))
            go_meet
          case rel => exact ⟨hbr.trans (Below.mono ((Below.refl _ _).drew.trans (hbq.mono (Nat.le_refl _))) hbr.size), by unfold hit; rw [hv]; rfl⟩
        case rest =>
          obtain ⟨hbx, rfl⟩ := hcut
          clear e0 e1 e2 e3 e4 e5 e6 e7
          cases hh : hit run s x with
          | true =>
            repeat' ((fail_if_success at_builtin); (first | go_skip | go_guarded | go_step))
            go_ret
            exact ⟨by rw [hf2.out hh]; rfl, hbx⟩
          | false =>
            repeat' ((fail_if_success at_builtin); (first | go_skip | go_guarded | go_step))
            go_roundw
            case rel => exact ⟨i + 1, by omega, by go_num, hbx, hn2.out hh⟩
            case measure => simp [intOf]; omega
    · have hf2 : fnd run s l = -1 := fnd_none fun j y hj => hno j y (by omega)
      replace hf2 := Lib.hid hf2
      clear hno
      repeat' ((fail_if_success at_builtin); (first | go_skip | go_guarded | go_step))
      go_ret
      exact ⟨by rw [hf2.out]; rfl, hbr⟩
end Go.Proofs.YtclinbpkcmcokaaDoor
