/- Paths: the walks of both sides. -/
import Derived.Test.YtpdlapdnjmoaoaaDoorIdN
import Derived.Test.YtpdlapdnjmoaoaaDoorShelf
namespace Go.Proofs.YtpdlapdnjmoaoaaDoor
open Go.RowKit
/-- the machine's word that strings.Split reads is there -/
def Ready (w : World) : Prop := (∃ m, w.cell? ⟨0, 0, none⟩ = some (.int .i64 m)) ∧ 0 < w.heap.size
theorem Ready.below {w w' : World} (h : Ready w) (hb : Below w.heap.size w w') : Ready w' := by
  obtain ⟨⟨m, hm⟩, hlt⟩ := h
  exact ⟨⟨m, by rw [hb.cell (p := ⟨0, 0, none⟩) hlt, hm]⟩, Nat.lt_of_lt_of_le hlt hb.size⟩
def nameB (s : ByteArray) : Bool := nameS s.data.toList
set_option maxRecDepth 100000 in
theorem names1_any (i : Int) (s : ByteArray) (w : World) (hm : s.size ≤ 9223372036854775807) : Calls Tryd.prog 93 #[.int .i64 i, .string s] w fun e w' => e = .returned (.bool (nameB s)) ∧ Below w.heap.size w w' := by
  go_enter Tryd.func93, Tryd.ntmps93
  repeat' ((fail_if_success at_builtin); (first | go_skip | go_guarded | go_step))
  refine (idName_any s w hm).mono ?_
  rintro e w1 ⟨rfl, hb⟩
  dsimp only
  repeat' ((fail_if_success at_builtin); (first | go_skip | go_guarded | go_step))
  go_ret
  exact ⟨rfl, hb⟩
set_option maxRecDepth 100000 in
theorem everyS_any (l : List ByteArray) (A : Option Addr) (c : Nat) (w : World) (B : Nat) (hB : B ≤ w.heap.size) (hs : Seq w B 1 A l.length (l.map Value.string)) (hl : l.length ≤ 1000000000) (hx : ∀ s ∈ l, s.size ≤ 1000000000) :
    Calls Tryd.prog 92 #[.slice A l.length c, .func (.func 93) #[] #[]] w fun e w' => e = .returned (.bool (l.all nameB)) ∧ Below w.heap.size w w' := by
  go_enter Tryd.func92, Tryd.ntmps92
  repeat' ((fail_if_success at_builtin); (first | go_skip | go_guarded | go_step))
  go_loopw [9] (fun u9 wr => ∃ i : Nat, i ≤ l.length ∧ u9 = .int .i64 (i : Int) ∧ Below w.heap.size w wr ∧ l.all nameB = (l.drop i).all nameB) (fun u9 _ => l.length - (intOf u9).toNat)
  case atStart => exact ⟨0, by omega, rfl, Below.refl _ _, rfl⟩
  case round =>
    obtain ⟨i, hi, rfl, hbr, hall⟩ := hrel
    by_cases hlt : i < l.length
    · obtain ⟨b, o, rfl, hbB, hcell⟩ := hs.2 (by omega)
      have hci : l[i]? = some l[i] := List.getElem?_eq_getElem hlt
      have e1 := (hbr.cell (p := ⟨b, o + i, none⟩) (by dsimp only; omega)).trans (hcell i (.string l[i]) (by rw [List.getElem?_map, hci]; rfl))
      rw [all_at hci] at hall
      have hsz := hx l[i] (List.getElem_mem hlt)
      have i0 : (0 : Int) ≤ (i : Int) := by omega
      have i1 : (i : Int) < (l.length : Int) := by omega
      generalize l[i] = x at e1 hall hsz
      clear hci hcell
      repeat' ((fail_if_success at_builtin); (first | go_skip | go_guarded | go_step))
      refine (names1_any i x _ (by omega)).mono ?_
      rintro e w' ⟨rfl, hb1⟩
      have hbb := hbr.trans (hb1.mono hbr.size)
      dsimp only
      cases hv : nameB x with
      | true =>
        rw [hv, Bool.true_and] at hall
        repeat' ((fail_if_success at_builtin); (first | go_skip | go_guarded | go_step))
        go_roundw
        case rel => exact ⟨i + 1, by omega, by go_num, hbb, hall⟩
        case measure => simp [intOf]; omega
      | false =>
        rw [hv, Bool.false_and] at hall
        repeat' ((fail_if_success at_builtin); (first | go_skip | go_guarded | go_step))
        go_ret
        exact ⟨by rw [hall]; rfl, hbb⟩
    · rw [all_end (by omega)] at hall
      repeat' ((fail_if_success at_builtin); (first | go_skip | go_guarded | go_step))
      go_ret
      exact ⟨by rw [hall]; rfl, hbr⟩
set_option maxRecDepth 100000 in
theorem names_any (l : List ByteArray) (A : Option Addr) (c : Nat) (w : World) (B : Nat) (hB : B ≤ w.heap.size) (hs : Seq w B 1 A l.length (l.map Value.string)) (h0 : 0 < l.length) (hl : l.length ≤ 1000000000) (hx : ∀ s ∈ l, s.size ≤ 1000000000) :
    Calls Tryd.prog 84 #[.slice A l.length c] w fun e w' => e = .returned (.bool (l.all nameB)) ∧ Below w.heap.size w w' := by
  have C := everyS_any l A c w B hB hs hl hx
  go_enter Tryd.func84, Tryd.ntmps84
  repeat' ((fail_if_success at_builtin); (first | go_skip | go_guarded | go_step))
  refine C.mono ?_
  rintro e w1 ⟨rfl, hb⟩
  dsimp only
  repeat' ((fail_if_success at_builtin); (first | go_skip | go_guarded | go_step))
  go_ret
  exact ⟨rfl, hb⟩
theorem spA_size : ∀ (l p : List UInt8), ∀ x ∈ spA p l, x.length ≤ p.length + l.length
  | [], p, x, h => by simp only [spA, List.mem_singleton] at h; subst h; omega
  | c :: r, p, x, h => by
    unfold spA at h
    split at h
    · rcases List.mem_cons.1 h with rfl | h
      · simp
      · have := spA_size r [] x h
        simp at this ⊢; omega
    · have := spA_size r (p ++ [c]) x h
      simp at this ⊢; omega
theorem spA_len : ∀ (l p : List UInt8), 1 ≤ (spA p l).length ∧ (spA p l).length ≤ l.length + 1
  | [], p => by simp [spA]
  | c :: r, p => by
    unfold spA
    split
    · have := spA_len r []
      simp; omega
    · have := spA_len r (p ++ [c])
      simp; omega
theorem split_all (s : ByteArray) : (Lib.splitB ⟨#[47]⟩ 0 (Lib.countB s ⟨#[47]⟩) s).all nameB = (pieces s.data.toList).all nameS := by
  rw [← split_pieces, List.all_map]; rfl
set_option maxRecDepth 100000 in
theorem parts_any (s : ByteArray) (w : World) (hm : s.size ≤ 9223372036854775807) (hR : Ready w) :
    Calls Tryd.prog 77 #[.string s] w fun e w' => (∃ v, e = .returned (.tuple #[v, .int .i64 (pathE s.data.toList : Int)])) ∧ Below w.heap.size w w' := by
  have hsz : s.data.toList.length = s.size := by simp
  obtain ⟨⟨m, hmc⟩, hlt⟩ := hR
  by_cases h0 : 512 < s.size
  · have hp : pathE s.data.toList = 3 := by unfold pathE; rw [if_pos (by omega)]
    rw [hp]
    go_enter Tryd.func77, Tryd.ntmps77
    repeat' ((fail_if_success at_builtin); (first | go_skip | go_guarded | go_step))
    go_ret2
    exact ⟨⟨_, rfl⟩, Below.refl _ _⟩
  · have hp : pathE s.data.toList = if (Lib.splitB ⟨#[47]⟩ 0 (Lib.countB s ⟨#[47]⟩) s).all nameB then 0 else 1 := by unfold pathE; rw [if_neg (by omega), split_all]
    have hlen := Lib.splitB_all ⟨#[47]⟩ (by decide) 0 _ s rfl
    have hcl := Lib.countB_le ⟨#[47]⟩ (by decide) _ s (Nat.le_refl _)
    have hxs : ∀ x ∈ Lib.splitB ⟨#[47]⟩ 0 (Lib.countB s ⟨#[47]⟩) s, x.size ≤ 1000000000 := by
      intro x hx
      have h1 : x.data.toList ∈ pieces s.data.toList := by rw [← split_pieces]; exact List.mem_map_of_mem hx
      have := spA_size _ _ _ h1
      simp at this; omega
    have C := Tryd.strings_Split s ⟨#[47]⟩ m w (by omega) hmc (by decide)
    rw [← hlen] at C
    generalize Lib.splitB ⟨#[47]⟩ 0 (Lib.countB s ⟨#[47]⟩) s = l at hp hlen hxs C
    rw [hp]
    have hl0 : 0 < l.length := by omega
    have hl1 : l.length ≤ 1000000 := by omega
    clear hlen hcl
    replace C := Lib.hid C
    go_enter Tryd.func77, Tryd.ntmps77
    repeat' ((fail_if_success at_builtin); (first | go_skip | go_guarded | go_step))
    refine C.out.mono ?_
    rintro e w1 ⟨rfl, rfl⟩
    have hba := (Below.refl w.heap.size w).alloc (Nat.le_refl _) (.cells (l.map Value.string).toArray 9)
    have ho := Own.lit (W0 := w) (Below.refl _ w) (cs := (l.map Value.string).toArray) (e := 9) (sz := 1) (n := l.length) (by simp) (by omega)
    have hsq := ho.seq
    rw [List.toList_toArray] at hsq
    have N := names_any l _ l.length _ _ (Nat.le_refl _) hsq (by omega) (by omega) hxs
    replace N := Lib.hid N
    clear hsq ho hxs
    dsimp only
    repeat' ((fail_if_success at_builtin); (first | go_skip | go_guarded | go_step))
    refine N.out.mono ?_
    rintro e w2 ⟨rfl, hb⟩
    have hbb := hba.trans (hb.mono hba.size)
    dsimp only
    cases hv : l.all nameB with
    | true =>
      repeat' ((fail_if_success at_builtin); (first | go_skip | go_guarded | go_step))
      go_ret2
      exact ⟨⟨_, by rw [hv]; rfl⟩, hbb⟩
    | false =>
      repeat' ((fail_if_success at_builtin); (first | go_skip | go_guarded | go_step))
      go_ret2
      exact ⟨⟨_, by rw [hv]; rfl⟩, hbb⟩
theorem spA_at {l p : List UInt8} {i : Nat} {c : UInt8} (h : l[i]? = some c) : spA p (l.drop i) = if c.toNat = 47 then p :: spA [] (l.drop (i + 1)) else spA (p ++ [c]) (l.drop (i + 1)) := by
  obtain ⟨hk, he⟩ := List.getElem?_eq_some_iff.1 h
  rw [List.drop_eq_getElem_cons hk, he]; rfl
theorem spA_end {l p : List UInt8} {i : Nat} (h : l.length ≤ i) : spA p (l.drop i) = [p] := by
  rw [List.drop_of_length_le h]; rfl
set_option maxRecDepth 100000 in
set_option maxHeartbeats 800000 in
theorem refSplit_any (s : ByteArray) (w : World) (hm : s.size ≤ 512) :
    Calls Tryd.prog 79 #[.string s] w fun e w' => ∃ (l : List ByteArray) (A : Option Addr) (c : Nat), e = .returned (.slice A l.length c) ∧ Own w w' 9 1 (.slice A l.length c) l.length (l.map Value.string) ∧ l.map (·.data.toList) = pieces s.data.toList := by
  have hsz : s.data.toList.length = s.size := by simp
  go_enter Tryd.func79, Tryd.ntmps79
  repeat' ((fail_if_success at_builtin); (first | go_skip | go_guarded | go_step))
  go_loopw [3, 4, 5] (fun u3 u4 u5 wr => ∃ (i j : Nat) (l : List ByteArray), i ≤ s.size + 1 ∧ j ≤ i ∧ u5 = .int .i64 (i : Int) ∧ u4 = .int .i64 (j : Int) ∧ l.length ≤ i ∧ Own w wr 9 1 u3 l.length (l.map Value.string) ∧
      (if i ≤ s.size then l.map (·.data.toList) ++ spA ((s.data.toList.drop j).take (i - j)) (s.data.toList.drop i) = pieces s.data.toList else l.map (·.data.toList) = pieces s.data.toList)) (fun _ _ u5 _ => s.size + 1 - (intOf u5).toNat)
  case atStart => exact ⟨0, 0, [], by omega, by omega, rfl, rfl, by simp, Own.nil_ _ _ _, by rw [if_pos (by omega)]; simp [pieces]⟩
  case round =>
    obtain ⟨i, j, l, hi, hj, rfl, rfl, hli, hown, hpc⟩ := hrel
    by_cases hlt : i ≤ s.size
    · rw [if_pos hlt] at hpc
      have i0 : (0 : Int) ≤ (i : Int) := by omega
      have i1 : (i : Int) ≤ (s.size : Int) := by omega
      have j0 : (0 : Int) ≤ (j : Int) := by omega
      have j1 : (j : Int) ≤ (i : Int) := by omega
      have hb : (l.length + 1) * 16 ≤ 140737488355328 := by omega
      by_cases hc : i = s.size ∨ ∃ h : i < s.size, s[i].toNat = 47
      · have hcat : ∀ (p : ByteArray), p.data.toList = (s.data.toList.drop j).take (i - j) → (if i + 1 ≤ s.size then (l ++ [p]).map (·.data.toList) ++ spA ((s.data.toList.drop (i + 1)).take (i + 1 - (i + 1))) (s.data.toList.drop (i + 1)) = pieces s.data.toList else (l ++ [p]).map (·.data.toList) = pieces s.data.toList) := by
          intro p hp
          rw [← hpc, List.map_append, List.map_cons, List.map_nil, hp]
          rcases hc with hc | ⟨h, hc⟩
          · rw [if_neg (by omega), spA_end (by omega)]
          · rw [if_pos (by omega), spA_at (str_at h), if_pos hc, Nat.sub_self, List.take_zero, List.append_assoc]
            rfl
        have Hcat := Lib.hid hcat
        have Hpc := Lib.hid hpc
        clear hcat hpc
        have hci : i = s.size ∨ ((i : Int) < (s.size : Int) ∧ ∃ h : i < s.size, (s[i].toNat : Int) = 47) := by
          rcases hc with hc | ⟨h, hc⟩
          · exact .inl hc
          · exact .inr ⟨by omega, h, by omega⟩
        rcases hci with rfl | ⟨hlt2, h, hcc⟩
        · repeat' (first | (at_builtin; go_loud (refine wp_app1 hown Tryd.underlying49 str_info hb ?_); intro v1 w1 hown1 _) | go_skip | go_guarded | go_step)
          refine ⟨⟨s.size + 1, s.size + 1, l ++ [s.extract j s.size], by omega, Nat.le_refl _, rfl, rfl, by simp only [List.length_append, List.length_cons, List.length_nil]; omega, by simpa using hown1, Hcat.out _ (ext_list s _ _)⟩, ?_⟩
          simp [intOf]
        · repeat' (first | (at_builtin; go_loud (refine wp_app1 hown Tryd.underlying49 str_info hb ?_); intro v1 w1 hown1 _) | go_skip | go_guarded | go_step)
          refine ⟨⟨i + 1, i + 1, l ++ [s.extract j i], by omega, Nat.le_refl _, rfl, rfl, by simp only [List.length_append, List.length_cons, List.length_nil]; omega, by simpa using hown1, Hcat.out _ (ext_list s _ _)⟩, ?_⟩
          simp [intOf]; omega
      · have hlt2 : i < s.size := by omega
        have hx : ¬ ((s[i].toNat : Int) = 47) := fun h => hc (.inr ⟨hlt2, by omega⟩)
        have hpc2 : (if i + 1 ≤ s.size then l.map (·.data.toList) ++ spA ((s.data.toList.drop j).take (i + 1 - j)) (s.data.toList.drop (i + 1)) = pieces s.data.toList else l.map (·.data.toList) = pieces s.data.toList) := by
          rw [if_pos (by omega), ← hpc, spA_at (str_at hlt2), if_neg (by omega)]
          congr 2
          rw [show i + 1 - j = (i - j) + 1 by omega, List.take_add_one, List.getElem?_drop, show j + (i - j) = i by omega, str_at hlt2]
          rfl
        have Hpc := Lib.hid hpc2
        clear hpc hpc2 hc
        have i2 : (i : Int) < (s.size : Int) := by omega
        have i3 : ((i : Int) == (s.size : Int)) = false := by simp; omega
        have i4 : ((s[i].toNat : Int) == 47) = false := by simpa using hx
        repeat' ((fail_if_success at_builtin); (first | go_skip | go_guarded | go_step))
        refine ⟨⟨i + 1, j, l, by omega, by omega, rfl, rfl, by omega, hown, Hpc.out⟩, ?_⟩
        simp [intOf]; omega
    · rw [if_neg hlt] at hpc
      repeat' ((fail_if_success at_builtin); (first | go_skip | go_guarded | go_step))
      obtain ⟨A, c, rfl⟩ := Own.slice_form hown
      go_ret
      exact ⟨l, A, c, rfl, hown, hpc⟩
set_option maxRecDepth 100000 in
set_option maxHeartbeats 800000 in
theorem refParts_any (s : ByteArray) (w : World) (hm : s.size ≤ 9223372036854775807) :
    Calls Tryd.prog 69 #[.string s] w fun e w' => (∃ v, e = .returned (.tuple #[v, .int .i64 (pathE s.data.toList : Int)])) ∧ Below w.heap.size w w' := by
  have hsz : s.data.toList.length = s.size := by simp
  by_cases h0 : 512 < s.size
  · have hp : pathE s.data.toList = 3 := by unfold pathE; rw [if_pos (by omega)]
    rw [hp]
    go_enter Tryd.func69, Tryd.ntmps69
    repeat' ((fail_if_success at_builtin); (first | go_skip | go_guarded | go_step))
    go_ret2
    exact ⟨⟨_, rfl⟩, Below.refl _ _⟩
  · have hp : pathE s.data.toList = if (pieces s.data.toList).all nameS then 0 else 1 := by unfold pathE; rw [if_neg (by omega)]
    have hp := Lib.hid hp
    have hxs : ∀ x ∈ pieces s.data.toList, x.length ≤ 512 := by
      intro x hx
      have := spA_size _ _ _ hx
      simp at this; omega
    have hxl := spA_len s.data.toList []
    go_enter Tryd.func69, Tryd.ntmps69
    repeat' ((fail_if_success at_builtin); (first | go_skip | go_guarded | go_step))
    refine (refSplit_any s w (by omega)).mono ?_
    rintro e w1 ⟨l, A, c, rfl, h1, hl⟩
    have hall : (pieces s.data.toList).all nameS = l.all nameB := by rw [← hl, List.all_map]; rfl
    have hll : l.length ≤ 513 := by
      have := congrArg List.length hl
      rw [List.length_map] at this
      unfold pieces at this
      omega
    have hxb : ∀ x ∈ l, x.size ≤ 512 := by
      intro x hx
      have h := hxs x.data.toList (by rw [← hl]; exact List.mem_map_of_mem (f := fun (y : ByteArray) => y.data.toList) hx)
      simpa using h
    have hs1 := h1.seq
    have hb1 := h1.2
    clear h1 hl hxs hxl
    dsimp only
    repeat' ((fail_if_success at_builtin); (first | go_skip | go_guarded | go_step))
    go_loopw [5] (fun u5 wr => ∃ i : Nat, i ≤ l.length ∧ u5 = .int .i64 (i : Int) ∧ wr = w1 ∧ l.all nameB = (l.drop i).all nameB) (fun u5 _ => l.length - (intOf u5).toNat)
    case atStart => exact ⟨0, by omega, rfl, rfl, rfl⟩
    case round =>
      obtain ⟨i, hi, rfl, rfl, ha⟩ := hrel
      by_cases hlt : i < l.length
      · obtain ⟨b, o, rfl, hbB, hcell⟩ := hs1.2 (by omega)
        have hci : l[i]? = some l[i] := List.getElem?_eq_getElem hlt
        have e1 := hcell i (.string l[i]) (by rw [List.getElem?_map, hci]; rfl)
        rw [all_at hci] at ha
        have hsz2 := hxb l[i] (List.getElem_mem hlt)
        have i0 : (0 : Int) ≤ (i : Int) := by omega
        have i1 : (i : Int) < (l.length : Int) := by omega
        generalize l[i] = x at e1 ha hsz2
        clear hci hcell
        repeat' ((fail_if_success at_builtin); (first | go_skip | go_guarded | go_step))
        refine (refName_any x _ (by omega)).mono ?_
        rintro e w' ⟨rfl, rfl⟩
        have hnx : nameS x.data.toList = nameB x := rfl
        rw [hnx]
        dsimp only
        cases hv : nameB x with
        | true =>
          rw [hv, Bool.true_and] at ha
          repeat' ((fail_if_success at_builtin); (first | go_skip | go_guarded | go_step))
          go_roundw
          case rel => exact ⟨i + 1, by omega, by go_num, trivial, ha⟩
          case measure => simp [intOf]; omega
        | false =>
          rw [hv, Bool.false_and] at ha
          repeat' ((fail_if_success at_builtin); (first | go_skip | go_guarded | go_step))
          go_ret2
          exact ⟨⟨_, by rw [hp.out, hall, ha]; rfl⟩, hb1⟩
      · rw [all_end (by omega)] at ha
        repeat' ((fail_if_success at_builtin); (first | go_skip | go_guarded | go_step))
        go_ret2
        exact ⟨⟨_, by rw [hp.out, hall, ha]; rfl⟩, hb1⟩
end Go.Proofs.YtpdlapdnjmoaoaaDoor
