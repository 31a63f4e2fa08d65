/- List, on both sides. -/
import Derived.Test.YtclinbpkcmcokaaDoorArtExp
namespace Go.Proofs.YtclinbpkcmcokaaDoor
open Go.RowKit
structure Outp where
  nm : ByteArray
  dig : Int
  size : Int
def ocl (o : Outp) : List Value := [.string o.nm, .int .u64 o.dig, .int .i64 o.size]
theorem ocl_len (o : Outp) : (ocl o).length = 3 := rfl
theorem out_info : Info Tryd.prog 28 (.agg #[.string ByteArray.empty, .int .u64 0, .int .i64 0]) 3 32 := by unfold Info; kernel_rfl
/-- the first error among names -/
def listE (l : List Art) (run : ByteArray) (now : Int) : List ByteArray → Nat
  | [] => 0
  | s :: r => if (getA l run s now).2 ≠ 0 then (getA l run s now).2 else listE l run now r
def outOf (l : List Art) (run : ByteArray) (now : Int) (s : ByteArray) : Outp := ⟨s, (getA l run s now).1.dig, (getA l run s now).1.size⟩
def listO (l : List Art) (run : ByteArray) (now : Int) (names : List ByteArray) : List Outp := names.map (outOf l run now)
theorem listE_at {l : List Art} {run : ByteArray} {now : Int} {names : List ByteArray} {i : Nat} {x : ByteArray} (h : names[i]? = some x) : listE l run now (names.drop i) = if (getA l run x now).2 ≠ 0 then (getA l run x now).2 else listE l run now (names.drop (i + 1)) := by
  obtain ⟨hk, he⟩ := List.getElem?_eq_some_iff.1 h
  rw [List.drop_eq_getElem_cons hk, he]; rfl
theorem listO_at {l : List Art} {run : ByteArray} {now : Int} {names : List ByteArray} {i : Nat} {x : ByteArray} (h : names[i]? = some x) : listO l run now (names.take (i + 1)) = listO l run now (names.take i) ++ [⟨x, (getA l run x now).1.dig, (getA l run x now).1.size⟩] := by
  rw [List.take_add_one, h]
  unfold listO
  rw [List.map_append]
  rfl
def RetOuts (w : World) (l : List Outp) (n : Nat) (e : Ending) (w' : World) : Prop := ∃ A c, e = .returned (.tuple #[.slice A l.length c, .int .i64 (n : Int)]) ∧ Seq w' w'.heap.size 3 A l.length (l.flatMap ocl) ∧ Below w.heap.size w w'
set_option maxRecDepth 100000 in
set_option maxHeartbeats 800000 in
theorem list_any (run : ByteArray) (now : Int) (names : List ByteArray) (l : List Art) (A An : Option Addr) (c cn : Nat) (w : World) (B : Nat) (hB : B ≤ w.heap.size) (hs : SeqA w B A l) (hl : l.length ≤ 1000000) (hsh : ∀ a ∈ l, Shrt a) (hsn : Seq w B 1 An names.length (names.map Value.string)) (hnl : names.length ≤ 1000000) :
    Calls Tryd.prog 18 #[.slice A l.length c, .string run, .slice An names.length cn, .int .i64 now] w (RetOuts w (if listE l run now names = 0 then listO l run now names else []) (listE l run now names)) := by
  have G := fun (x : ByteArray) (w' : World) (hb : Below w.heap.size w w') => get_any run x now l A c w' B (Nat.le_trans hB hb.size) (hs.below (hb.mono hB)) hl hsh
  replace G := Lib.hid G
  clear hs hsh
  go_enter Tryd.func18, Tryd.ntmps18
  repeat' ((fail_if_success at_builtin); (first | go_skip | go_guarded | go_step))
  go_loopw [10, 17] (fun u10 u1 wr => ∃ i : Nat, i ≤ names.length ∧ u1 = .int .i64 (i : Int) ∧ Own w wr 28 3 u10 i ((listO l run now (names.take i)).flatMap ocl) ∧ listE l run now names = listE l run now (names.drop i)) (fun _ u1 _ => names.length - (intOf u1).toNat)
  case atStart => exact ⟨0, by omega, rfl, Own.nil_ _ _ _, rfl⟩
  case round =>
    obtain ⟨i, hi, rfl, hown, hall⟩ := hrel
    have hbr := hown.2
    by_cases hlt : i < names.length
    · skip
      obtain ⟨b, o, rfl, hbB, hcell⟩ := hsn.2 (by omega)
      have hci : names[i]? = some names[i] := List.getElem?_eq_getElem hlt
      have e1 := (hbr.cell (p := ⟨b, o + i, none⟩) (by dsimp only; omega)).trans (hcell i (.string names[i]) (by rw [List.getElem?_map, hci]; rfl))
      clear hcell
      have hE := listE_at (l := l) (run := run) (now := now) hci
      have hO := listO_at (l := l) (run := run) (now := now) hci
      generalize names[i] = x at *
      clear hci
      have i0 : (0 : Int) ≤ (i : Int) := by omega
      have i1 : (i : Int) < (names.length : Int) := by omega
      have hb24 : (i + 1) * 32 ≤ 140737488355328 := by omega
      repeat' ((fail_if_success at_builtin); (first | go_skip | go_guarded | go_step))
      refine (G.out x wr hbr).mono ?_
      rintro e w2 ⟨rfl, hb2⟩
      have hown2 := hown.below hb2
      clear hown hb2
      generalize getA l run x now = y at *
      dsimp only
      generalize hye : y.2 = ye at *
      by_cases h0 : ye = 0
      · subst h0
        rw [if_neg (by omega)] at hE
        have hall := hall.trans hE
        replace hO := Lib.hid hO
        replace hall := Lib.hid hall
        clear hE
        have hown4 := hown2.alloc (.cells #[.string y.1.run, .string y.1.job, .int .i64 y.1.att, .string x, .int .u64 y.1.dig, .int .i64 y.1.size, .int .i64 y.1.created, .int .i64 y.1.expires] 30)
        repeat' ((fail_if_success at_builtin); (first | go_skip | go_guarded | go_step))
        refine wp_app1 hown4 Tryd.underlying51 out_info hb24 ?_
        intro v3 w3 hown3 _
        repeat' ((fail_if_success at_builtin); (first | go_skip | go_guarded | go_step))
        go_roundw
        case rel =>
          refine ⟨i + 1, by omega, by go_num, ?_, hall.out⟩
          rw [hO.out, List.flatMap_append, List.flatMap_cons, List.flatMap_nil, List.append_nil]
          exact hown3
        case measure => simp [intOf]; omega
      · have q : ¬ ((ye : Int) = 0) := by omega
        rw [if_pos h0] at hE
        have hall := Lib.hid (hall.trans hE)
        have hbb := hown2.2
        clear hE hO
        repeat' ((fail_if_success at_builtin); (first | go_skip | go_guarded | go_step))
        go_ret2
        refine ⟨none, 0, ?_, ?_, ?_⟩
        · rw [hall.out, if_neg h0]; rfl
        · rw [hall.out, if_neg h0]; exact Seq.nil_
        · exact hbb.alloc hbb.size _
    · have hte : names.take i = names := List.take_of_length_le (by omega)
      have hde : listE l run now (names.drop i) = 0 := by rw [List.drop_of_length_le (by omega)]; rfl
      have hin : i = names.length := by omega
      rw [hde] at hall
      rw [hte, hin] at hown
      obtain ⟨A2, c2, rfl⟩ := Own.slice_form hown
      have hall := Lib.hid hall
      repeat' ((fail_if_success at_builtin); (first | go_skip | go_guarded | go_step))
      go_ret2
      have hll : (listO l run now names).length = names.length := by unfold listO; rw [List.length_map]
      refine ⟨A2, c2, ?_, ?_, hown.2⟩
      · rw [hall.out, if_pos rfl, hll]; rfl
      · rw [hall.out, if_pos rfl, hll]; exact hown.seq
set_option maxRecDepth 100000 in
set_option maxHeartbeats 800000 in
theorem rlist_any (run : ByteArray) (now : Int) (names : List ByteArray) (l : List Art) (A An : Option Addr) (c cn : Nat) (w : World) (B : Nat) (hB : B ≤ w.heap.size) (hs : SeqA w B A l) (hl : l.length ≤ 1000000) (hsh : ∀ a ∈ l, Shrt a) (hsn : Seq w B 1 An names.length (names.map Value.string)) (hnl : names.length ≤ 1000000) :
    Calls Tryd.prog 19 #[.slice A l.length c, .string run, .slice An names.length cn, .int .i64 now] w (RetOuts w (if listE l run now names = 0 then listO l run now names else []) (listE l run now names)) := by
  have G := fun (x : ByteArray) (w' : World) (hb : Below w.heap.size w w') => rget_any run x now l A c w' B (Nat.le_trans hB hb.size) (hs.below (hb.mono hB)) hl hsh
  replace G := Lib.hid G
  clear hs hsh
  go_enter Tryd.func19, Tryd.ntmps19
  repeat' ((fail_if_success at_builtin); (first | go_skip | go_guarded | go_step))
  go_loopw [10, 11] (fun u10 u1 wr => ∃ i : Nat, i ≤ names.length ∧ u1 = .int .i64 (i : Int) ∧ Own w wr 28 3 u10 i ((listO l run now (names.take i)).flatMap ocl) ∧ listE l run now names = listE l run now (names.drop i)) (fun _ u1 _ => names.length - (intOf u1).toNat)
  case atStart => exact ⟨0, by omega, rfl, Own.nil_ _ _ _, rfl⟩
  case round =>
    obtain ⟨i, hi, rfl, hown, hall⟩ := hrel
    have hbr := hown.2
    by_cases hlt : i < names.length
    · skip
      obtain ⟨b, o, rfl, hbB, hcell⟩ := hsn.2 (by omega)
      have hci : names[i]? = some names[i] := List.getElem?_eq_getElem hlt
      have e1 := (hbr.cell (p := ⟨b, o + i, none⟩) (by dsimp only; omega)).trans (hcell i (.string names[i]) (by rw [List.getElem?_map, hci]; rfl))
      clear hcell
      have hE := listE_at (l := l) (run := run) (now := now) hci
      have hO := listO_at (l := l) (run := run) (now := now) hci
      generalize names[i] = x at *
      clear hci
      have i0 : (0 : Int) ≤ (i : Int) := by omega
      have i1 : (i : Int) < (names.length : Int) := by omega
      have hb24 : (i + 1) * 32 ≤ 140737488355328 := by omega
      repeat' ((fail_if_success at_builtin); (first | go_skip | go_guarded | go_step))
      refine (G.out x wr hbr).mono ?_
      rintro e w2 ⟨rfl, hb2⟩
      have hown2 := hown.below hb2
      have hb2k := hb2
      have hbw0 : b < wr.heap.size := by have := hbr.size; omega
      clear hown hb2
      generalize getA l run x now = y at *
      dsimp only
      generalize hye : y.2 = ye at *
      by_cases h0 : ye = 0
      · subst h0
        rw [if_neg (by omega)] at hE
        have hall := hall.trans hE
        replace hO := Lib.hid hO
        replace hall := Lib.hid hall
        clear hE
        have hbw : b < w2.heap.size := by have := hown2.2.size; omega
        have e2 := (hb2k.cell (p := ⟨b, o + i, none⟩) hbw0).trans e1
        repeat' ((fail_if_success at_builtin); (first | go_skip | go_guarded | go_step))
        generalize hw3 : World.alloc w2 _ = w3
        have y4 : w3.cell? ⟨w2.heap.size, 4, none⟩ = some (.int .u64 y.1.dig) := by rw [← hw3]; simp [go_sem]
        have y5 : w3.cell? ⟨w2.heap.size, 5, none⟩ = some (.int .i64 y.1.size) := by rw [← hw3]; simp [go_sem]
        have hb3 : Below w2.heap.size w2 w3 := by rw [← hw3]; exact (Below.refl _ _).alloc (Nat.le_refl _) _
        have k3 : w2.heap.size < w3.heap.size := by rw [← hw3]; simp
        have hown3 := hown2.below hb3
        have hne3 : some w2.heap.size ≠ u10.ownBlock := Own.lt hown2 (Nat.le_refl _)
        have e3 := (hb3.cell (p := ⟨b, o + i, none⟩) hbw).trans e2
        have kb : b < w3.heap.size := Nat.lt_of_lt_of_le hbw hb3.size
        have hne4 : some b ≠ u10.ownBlock := Own.old hown2 (by omega)
        clear hw3 hb3 e1 e2 hb2k hown2
        have hown3d : Own w w3.drew 28 3 u10 i ((listO l run now (names.take i)).flatMap ocl) := hown3.below (Below.refl _ _).drew
        have hS : w3.drew.cell? ⟨b, o + i, none⟩ = some (.string x) ∧ w3.drew.cell? ⟨w2.heap.size, 4, none⟩ = some (.int .u64 y.1.dig) ∧ w3.drew.cell? ⟨w2.heap.size, 5, none⟩ = some (.int .i64 y.1.size) := ⟨e3, y4, y5⟩
        have hS2 : ∀ ob, (w3.drew.alloc ob).cell? ⟨b, o + i, none⟩ = some (.string x) ∧ (w3.drew.alloc ob).cell? ⟨w2.heap.size, 4, none⟩ = some (.int .u64 y.1.dig) ∧ (w3.drew.alloc ob).cell? ⟨w2.heap.size, 5, none⟩ = some (.int .i64 y.1.size) := fun ob => by
          have hba := (Below.refl w3.drew.heap.size w3.drew).alloc (Nat.le_refl _) ob
          exact ⟨(hba.cell (p := ⟨b, o + i, none⟩) kb).trans e3, (hba.cell (p := ⟨w2.heap.size, 4, none⟩) k3).trans y4, (hba.cell (p := ⟨w2.heap.size, 5, none⟩) k3).trans y5⟩
        have kb2 : ∀ ob, b < (w3.drew.alloc ob).heap.size := fun ob => Nat.lt_of_lt_of_le kb (by simp)
        have k32 : ∀ ob, w2.heap.size < (w3.drew.alloc ob).heap.size := fun ob => Nat.lt_of_lt_of_le k3 (by simp)
        replace hS2 := Lib.hid hS2
        replace kb2 := Lib.hid kb2
        replace k32 := Lib.hid k32
        go_region_held3 (fun w' => w'.cell? ⟨b, o + i, none⟩ = some (.string x) ∧ w'.cell? ⟨w2.heap.size, 4, none⟩ = some (.int .u64 y.1.dig) ∧ w'.cell? ⟨w2.heap.size, 5, none⟩ = some (.int .i64 y.1.size))
          (first | exact hS | exact hS2.out _ | exact ⟨(hgr.cell (p := ⟨b, o + i, none⟩) (kb2.out _) hne4).trans (hS2.out _).1, (hgr.cell (p := ⟨w2.heap.size, 4, none⟩) (k32.out _) hne3).trans (hS2.out _).2.1, (hgr.cell (p := ⟨w2.heap.size, 5, none⟩) (k32.out _) hne3).trans (hS2.out _).2.2⟩)
          (first | (refine step_app1 hown3d Tryd.underlying51 out_info hb24 ?_; intro v4 w4 hown4 hgr))
        clear hS hS2 kb2 k32 hgr
        repeat' ((fail_if_success at_builtin); (first | go_skip | go_guarded | go_step))
        go_roundw
        case rel =>
          refine ⟨i + 1, by omega, by go_num, ?_, hall.out⟩
          rw [hO.out, List.flatMap_append, List.flatMap_cons, List.flatMap_nil, List.append_nil]
          exact hown4
        case measure => simp [intOf]; omega
      · have q : ¬ ((ye : Int) = 0) := by omega
        rw [if_pos h0] at hE
        have hall := Lib.hid (hall.trans hE)
        have hbb := hown2.2
        clear hE hO
        repeat' ((fail_if_success at_builtin); (first | go_skip | go_guarded | go_step))
        go_ret2
        refine ⟨none, 0, ?_, ?_, ?_⟩
        · rw [hall.out, if_neg h0]; rfl
        · rw [hall.out, if_neg h0]; exact Seq.nil_
        · exact hbb.alloc hbb.size _
    · have hte : names.take i = names := List.take_of_length_le (by omega)
      have hde : listE l run now (names.drop i) = 0 := by rw [List.drop_of_length_le (by omega)]; rfl
      have hin : i = names.length := by omega
      rw [hde] at hall
      rw [hte, hin] at hown
      obtain ⟨A2, c2, rfl⟩ := Own.slice_form hown
      have hall := Lib.hid hall
      repeat' ((fail_if_success at_builtin); (first | go_skip | go_guarded | go_step))
      go_ret2
      have hll : (listO l run now names).length = names.length := by unfold listO; rw [List.length_map]
      refine ⟨A2, c2, ?_, ?_, hown.2⟩
      · rw [hall.out, if_pos rfl, hll]; rfl
      · rw [hall.out, if_pos rfl, hll]; exact hown.seq
set_option maxRecDepth 100000 in
set_option maxHeartbeats 800000 in
theorem sameO_any (l : List Outp) (A1 A2 : Option Addr) (c1 c2 : Nat) (w : World) (B1 B2 : Nat) (hB1 : B1 ≤ w.heap.size) (hB2 : B2 ≤ w.heap.size) (hs1 : Seq w B1 3 A1 l.length (l.flatMap ocl)) (hs2 : Seq w B2 3 A2 l.length (l.flatMap ocl)) (hl : l.length ≤ 1000000) :
    Calls Tryd.prog 20 #[.slice A1 l.length c1, .slice A2 l.length c2] w fun e w' => e = .returned (.bool true) ∧ Below w.heap.size w w' := by
  go_enter Tryd.func20, Tryd.ntmps20
  repeat' ((fail_if_success at_builtin); (first | go_skip | go_guarded | go_step))
  go_loopw [5] (fun u5 wr => ∃ i : Nat, i ≤ l.length ∧ u5 = .int .i64 (i : Int) ∧ Below w.heap.size w wr) (fun u5 _ => l.length - (intOf u5).toNat)
  case atStart => exact ⟨0, by omega, rfl, Below.refl _ _⟩
  case round =>
    obtain ⟨i, hi, rfl, hbr⟩ := hrel
    by_cases hlt : i < l.length
    · skip
      obtain ⟨b1, o1, rfl, hb1, hcell1⟩ := hs1.2 (by omega)
      obtain ⟨b2, o2, rfl, hb2, hcell2⟩ := hs2.2 (by omega)
      have hci : l[i]? = some l[i] := List.getElem?_eq_getElem hlt
      have hc1 := fun j u hu => (hbr.cell (p := ⟨b1, o1 + (i * 3 + j), none⟩) (by dsimp only; omega)).trans (hcell1 (i * 3 + j) u (flat_at ocl_len hci hu))
      have hc2 := fun j u hu => (hbr.cell (p := ⟨b2, o2 + (i * 3 + j), none⟩) (by dsimp only; omega)).trans (hcell2 (i * 3 + j) u (flat_at ocl_len hci hu))
      clear hcell1 hcell2 hci
      generalize l[i] = x at *
      have e0 := hc1 0 _ rfl
      have g0 := hc2 0 _ rfl
      have e1 := hc1 1 _ rfl
      have g1 := hc2 1 _ rfl
      have e2 := hc1 2 _ rfl
      have g2 := hc2 2 _ rfl
      simp only [← Nat.add_assoc, Nat.add_zero] at e0 g0 e1 g1 e2 g2
      clear hc1 hc2
      have i0 : (0 : Int) ≤ (i : Int) := by omega
      have i1 : (i : Int) < (l.length : Int) := by omega
      repeat' ((fail_if_success at_builtin); (first | go_skip | go_guarded | go_step))
      go_quiet (fail)
      repeat' ((fail_if_success at_builtin); (first | go_skip | go_guarded | go_step))
      go_roundw
      case rel => exact ⟨i + 1, by omega, by go_num, hbr.trans (Below.mono (below_drewN _ _) hbr.size)⟩
      case measure => simp [intOf]; omega
    · repeat' ((fail_if_success at_builtin); (first | go_skip | go_guarded | go_step))
      go_ret
      exact ⟨rfl, hbr⟩
end Go.Proofs.YtclinbpkcmcokaaDoor
