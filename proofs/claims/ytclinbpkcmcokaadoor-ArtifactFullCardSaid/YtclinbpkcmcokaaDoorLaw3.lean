/- The law on full stores: its walk. -/
import Derived.Test.YtclinbpkcmcokaaDoorLaw1
namespace Go.Proofs.YtclinbpkcmcokaaDoor
open Go.RowKit
theorem shrt_zero : Shrt zeroA := ⟨by decide, by decide, by decide⟩
theorem rep_t : badT (madeA bin) = false := by decide +kernel
theorem rep_r : badR (madeA bin) = false := by decide +kernel
theorem rep_k : (key (madeA bin)).size = 9 := by decide +kernel
theorem rep_h : hit (madeA bin).run (key (madeA bin)) zeroA = false := by decide +kernel
theorem rep_f (m : Nat) : fnd (madeA bin).run (key (madeA bin)) (List.replicate m zeroA) = -1 := fnd_none fun j y _ hy => by
  have := (List.mem_replicate.1 (List.mem_of_getElem? hy)).2
  rw [this]; exact rep_h
theorem rep_err (m : Nat) : errA (List.replicate m zeroA) (madeA bin) = if 4096 ≤ m then 21 else 0 := by
  unfold errA
  rw [rep_t, rep_r, rep_k, rep_f, List.length_replicate]
  simp
def zeroV : Value := .agg #[.string ByteArray.empty, .string ByteArray.empty, .int .i64 0, .string ByteArray.empty, .int .u64 0, .int .i64 0, .int .i64 0, .int .i64 0]
theorem made_flat (m : Nat) : (madeCells zeroV.cells (m * 8)).toList = (List.replicate m zeroA).flatMap acl := by
  apply List.ext_getElem?
  intro j
  by_cases hj : j < m * 8
  · have h8 : j % 8 < 8 := Nat.mod_lt _ (by omega)
    have e : j = (j / 8) * 8 + j % 8 := by omega
    have hu : (acl zeroA)[j % 8]? = some (zeroV.cells[j % 8]!) := by
      generalize j % 8 = r at h8
      match r, h8 with
      | 0, _ => rfl
      | 1, _ => rfl
      | 2, _ => rfl
      | 3, _ => rfl
      | 4, _ => rfl
      | 5, _ => rfl
      | 6, _ => rfl
      | 7, _ => rfl
    have h1 := flat_at acl_len (l := List.replicate m zeroA) (i := j / 8) (x := zeroA) (by rw [List.getElem?_replicate, if_pos (by omega)]) hu
    rw [← e] at h1
    rw [h1]
    unfold madeCells
    rw [Array.getElem?_toList, Array.getElem?_map, Array.getElem?_range]
    simp [hj]
    rfl
  · have h1 : (madeCells zeroV.cells (m * 8)).toList.length ≤ j := by rw [Array.length_toList, size_madeCells]; omega
    have h2 : ((List.replicate m zeroA).flatMap acl).length ≤ j := by rw [flat_len acl_len, List.length_replicate]; omega
    rw [List.getElem?_eq_none h1, List.getElem?_eq_none h2]
set_option maxRecDepth 100000 in
set_option maxHeartbeats 800000 in
theorem full_law (n : Nat) (w : World) (hR : Ready w) (hn : n < 256) :
    Calls Tryd.prog 4 #[.int .u8 (n : Int)] w (Holds w) := by
  have CA := fun (w' : World) (hb : Below w.heap.size w w') => awake_any w' (hR.below hb)
  replace CA := Lib.hid CA
  by_cases h2 : 2 < n
  · go_enter Tryd.func4, Tryd.ntmps4
    repeat' ((fail_if_success at_builtin); (first | go_skip | go_guarded | go_step))
    refine (CA.out _ (Below.refl _ _)).mono ?_
    rintro e wz ⟨rfl, hbz⟩
    dsimp only
    repeat' ((fail_if_success at_builtin); (first | go_skip | go_guarded | go_step))
    go_ret
    exact ⟨rfl, hbz⟩
  · have h3 : n = 0 ∨ n = 1 ∨ n = 2 := by omega
    go_enter Tryd.func4, Tryd.ntmps4
    obtain ⟨ti, hi1, hi2, hi3, hi4⟩ := info_parts art_info
    have hmk := run_make (P := Tryd.prog) w 22 30 ti _ Tryd.underlying22 hi1 hi2 .i64 .i64 (4096 - (n : Int)) (4096 - (n : Int)) (by omega) (by omega) (by rw [hi4]; omega) (by omega)
    rw [hi3] at hmk
    obtain ⟨m, hm⟩ : ∃ m : Nat, (4096 - (n : Int)).toNat = m := ⟨_, rfl⟩
    have hmi : 4096 - (n : Int) = (m : Int) := by omega
    have hmn : m = 4096 - n := by omega
    rw [hm, hmi] at hmk
    have hmk := Lib.hid hmk
    have ho := Own.lit (W0 := w) (Below.refl _ w) (cs := madeCells zeroV.cells (m * 8)) (e := 30) (sz := 8) (n := m) (by rw [size_madeCells]) (by omega)
    rw [made_flat] at ho
    have hsq : SeqA (w.alloc (.cells (madeCells zeroV.cells (m * 8)) 30)) (w.alloc (.cells (madeCells zeroV.cells (m * 8)) 30)).heap.size (some ⟨w.heap.size, 0, none⟩) (List.replicate m zeroA) := by
      unfold SeqA
      rw [List.length_replicate]
      exact ho.seq
    have hb1 := ho.2
    clear ho hi1 hi2 hi3 hi4
    rename_i hmk0
    clear hmk0
    replace hmi := Lib.hid hmi
    replace hmn := Lib.hid hmn
    clear hm
    repeat' ((fail_if_success at_builtin); (first | go_skip | go_guarded | go_step))
    rw [hmi.out, hmk.out]
    simp only [Result.andThen, Oper.upon]
    have hzz : (Value.agg #[.string ByteArray.empty, .string ByteArray.empty, .int .i64 0, .string ByteArray.empty, .int .u64 0, .int .i64 0, .int .i64 0, .int .i64 0]) = zeroV := rfl
    rw [hzz]
    generalize w.alloc (.cells (madeCells zeroV.cells (m * 8)) 30) = w1 at *
    clear hmk hmi
    have hRb := hR.below hb1
    repeat' ((fail_if_success at_builtin); (first | go_skip | go_guarded | go_step))
    refine (made_any bin w1).mono ?_
    rintro e w2 ⟨rfl, hb2⟩
    have hb2' := hb1.trans (hb2.mono hb1.size)
    have hsq2 := hsq.below hb2
    have C := put_any (List.replicate m zeroA) (madeA bin) (some ⟨w.heap.size, 0, none⟩) m w2 w1.heap.size (hR.below hb2') hb2.size (fun h => by cases h) hsq2 (by rw [List.length_replicate]; have := hmn.out; omega) (fun a ha => by rw [(List.mem_replicate.1 ha).2]; exact shrt_zero) shrt_made
    rw [List.length_replicate, rep_err] at C
    have hpl : putA (List.replicate m zeroA) (madeA bin) = if 4096 ≤ m then List.replicate m zeroA else List.replicate m zeroA ++ [stored (madeA bin)] := by
      unfold putA
      rw [rep_err]
      by_cases h : 4096 ≤ m
      · rw [if_pos h, if_pos h, if_neg (by omega)]
      · rw [if_neg h, if_neg h, if_pos rfl]
    rw [hpl] at C
    clear hsq hsq2 hb2 hb1 hRb hpl hzz
    dsimp only
    by_cases hn0 : n = 0
    · have h4 : 4096 ≤ m := by have := hmn.out; omega
      rw [if_pos h4, if_pos h4] at C
      replace C := Lib.hid C
      subst hn0
      repeat' ((fail_if_success at_builtin); (first | go_skip | go_guarded | go_step))
      refine C.out.mono ?_
      rintro e w3 ⟨A3, c3, rfl, hs3, _, hb3⟩
      have hb3' := hb2'.trans (hb3.mono hb2'.size)
      rw [List.length_replicate]
      clear C hs3
      dsimp only
      repeat' ((fail_if_success at_builtin); (first | go_skip | go_guarded | go_step))
      refine (CA.out _ hb3').mono ?_
      rintro e wz ⟨rfl, hbz⟩
      dsimp only
      repeat' ((fail_if_success at_builtin); (first | go_skip | go_guarded | go_step))
      go_ret
      exact ⟨rfl, hb3'.trans (hbz.mono hb3'.size)⟩
    · have h4 : ¬ 4096 ≤ m := by have := hmn.out; omega
      have hm1 : m ≤ 4096 := by omega
      rw [if_neg h4, if_neg h4] at C
      replace C := Lib.hid C
      have hn1 : ¬ ((n : Int) = 0) := by omega
      have hn2 : ((n : Int) == 0) = false := by simpa using hn1
      repeat' ((fail_if_success at_builtin); (first | go_skip | go_guarded | go_step))
      refine C.out.mono ?_
      rintro e w3 ⟨A3, c3, rfl, hs3, _, hb3⟩
      have hb3' := hb2'.trans (hb3.mono hb2'.size)
      have hll : (List.replicate m zeroA ++ [stored (madeA bin)]).length = m + 1 := by rw [List.length_append, List.length_replicate]; rfl
      obtain ⟨b, o, rfl, hbB, hcell⟩ := hs3.2 (by rw [hll]; omega)
      have e3 := hcell (m * 8 + 3) (.string bin) (flat_at acl_len (x := stored (madeA bin)) (by rw [List.getElem?_append_right (by rw [List.length_replicate]; omega), List.length_replicate, Nat.sub_self]; rfl) rfl)
      rw [← Nat.add_assoc] at e3
      rw [hll]
      clear C hs3 hcell hll
      have i0 : (0 : Int) ≤ (m : Int) := by omega
      have i1 : (m : Int) < (m : Int) + 1 := by omega
      have hbin : bin.toList = [98, 105, 110] := by rw [ByteArray.toList_eq]; rfl
      have i2 : IntKind.i64.wrap ((m : Int) + 1) = (m : Int) + 1 := IntWalk.i64_in _ (by omega)
      dsimp only
      repeat' ((fail_if_success at_builtin); (first | go_skip | go_guarded | go_step))
      refine (CA.out _ hb3').mono ?_
      rintro e wz ⟨rfl, hbz⟩
      dsimp only
      repeat' ((fail_if_success at_builtin); (first | go_skip | go_guarded | go_step))
      go_ret
      exact ⟨rfl, hb3'.trans (hbz.mono hb3'.size)⟩
end Go.Proofs.YtclinbpkcmcokaaDoor
