/- slices.Insert of one string into a row of the caller's own. -/
import Derived.Test.YtionchkblgpklaaDoorGtC
namespace Go.Proofs.YtionchkblgpklaaDoor
open Go.RowKit
theorem below_setCells {B g : Nat} {a : World} (hg : B ≤ g) : ∀ (vs : List Value) (o : Nat) (w : World), Below B a w → Below B a (w.setCells g o vs)
  | [], _, _, h => h
  | v :: vs, o, _, h => below_setCells hg vs (o + 1) _ (h.setCell (p := ⟨g, o, none⟩) hg v)
theorem setCells_size (g : Nat) : ∀ (vs : List Value) (o : Nat) (w : World), (w.setCells g o vs).heap.size = w.heap.size
  | [], _, _ => rfl
  | v :: vs, o, w => by rw [World.setCells, setCells_size g vs]; simp [World.setCell]
theorem zero_size (k : Nat) : (Builtin.zeroCells (Value.string ⟨#[]⟩).cells k).size = k := by
  rw [size_zeroCells]; exact Nat.mul_one k
def insAt (l : List ByteArray) (s : ByteArray) (i : Nat) : List ByteArray := l.take i ++ s :: l.drop i
theorem insAt_len {l : List ByteArray} {s : ByteArray} {i : Nat} : (insAt l s i).length = l.length + 1 := by
  unfold insAt
  simp only [List.length_append, List.length_take, List.length_cons, List.length_drop]
  omega
theorem insAt_get {l : List ByteArray} {s : ByteArray} {i j : Nat} (hi : i ≤ l.length) : (insAt l s i)[j]? = if j < i then l[j]? else if j = i then some s else l[j - 1]? := by
  unfold insAt
  by_cases h1 : j < i
  · rw [if_pos h1, List.getElem?_append_left (by rw [List.length_take]; omega), List.getElem?_take_of_lt h1]
  · rw [if_neg h1, List.getElem?_append_right (by rw [List.length_take]; omega), List.length_take, Nat.min_eq_left hi]
    by_cases h2 : j = i
    · rw [if_pos h2, h2, Nat.sub_self]; rfl
    · rw [if_neg h2, show j - i = (j - 1 - i) + 1 by omega, List.getElem?_cons_succ, List.getElem?_drop, show i + (j - 1 - i) = j - 1 by omega]
theorem cells_get {l : List ByteArray} {j : Nat} {u : Value} (h : (cellsS l)[j]? = some u) : ∃ s, l[j]? = some s ∧ u = .string s := by
  rw [List.getElem?_map] at h
  obtain ⟨s, h1, h2⟩ := Option.map_eq_some_iff.1 h
  exact ⟨s, h1, h2.symm⟩
theorem cells_one (l : List ByteArray) : ∀ v ∈ cellsS l, v.oneCell' = true := by
  intro v hv
  obtain ⟨s, _, rfl⟩ := List.mem_map.1 hv
  rfl
/-- what the callers of Insert learn -/
def InsR (B : Nat) (w0 : World) (l : List ByteArray) (e : Ending) (w' : World) : Prop := ∃ A' c', e = .returned (.slice A' l.length c') ∧ SeqP w' (fun b => B ≤ b ∧ b < w'.heap.size) 1 A' l.length (cellsS l) ∧ Below B w0 w'
set_option maxHeartbeats 1000000 in
theorem ins_any (l : List ByteArray) (s : ByteArray) (i B : Nat) (A : Option Addr) (c : Nat) (w0 : World) (hown : w0.ownsRow B 9 1 (.slice A l.length c) l.length (cellsS l)) (hi : i ≤ l.length) (hl : l.length ≤ 1000) (hB : B ≤ w0.heap.size) :
    Calls Tryd.prog 39 #[.slice A l.length c, .int .i64 (i : Int), .slice (some ⟨w0.heap.size, 0, none⟩) 1 1] (w0.alloc (.cells #[.string s] 9)) (InsR B w0 (insAt l s i)) := by
  have h1 := hown.alloc (.cells #[.string s] 9)
  have hb1 := (Below.refl B w0).alloc hB (.cells #[.string s] 9)
  have hv : (w0.alloc (.cells #[.string s] 9)).cell? ⟨w0.heap.size, 0, none⟩ = some (.string s) := by simp [go_sem]
  have hvf : ∀ j, (w0.alloc (.cells #[.string s] 9)).frozen? ⟨w0.heap.size, j, none⟩ = false := fun j => by simp [go_sem]
  have hvs : (w0.alloc (.cells #[.string s] 9)).shape? w0.heap.size = some (9, 1) := by
    unfold World.shape?
    rw [heap_alloc_new]
    rfl
  have hsz : (w0.alloc (.cells #[.string s] 9)).heap.size = w0.heap.size + 1 := by simp
  have hvc : ∀ j v, [Value.string s][j]? = some v → (w0.alloc (.cells #[.string s] 9)).cell? ⟨w0.heap.size, 0 + j, none⟩ = some v := fun j v h => by
    match j, h with
    | 0, h => cases h; exact hv
  have h1v : ∀ v ∈ [Value.string s], v.oneCell' = true := by intro v hv; rw [List.mem_singleton.1 hv]; rfl
  have hgl : ∀ g cap, Value.slice A l.length c = .slice (some ⟨g, 0, none⟩) l.length cap → g < w0.heap.size := fun g cap hv => by
    rcases hown.2 with ⟨hv', h0⟩ | ⟨g', cap', cur, hv', hb, hg, r⟩
    · rw [hv] at hv'; cases hv'
    · rw [hv] at hv'
      injection hv' with hA
      injection hA with hA
      injection hA with hA
      subst hA
      exact (Array.getElem?_eq_some_iff.1 hg).1
  generalize w0.alloc (.cells #[.string s] 9) = w at *
  have hcl : (cellsS l).length = l.length := by simp
  by_cases hroom : l.length + 1 ≤ c
  · rcases h1.2 with ⟨hv', h0⟩ | ⟨g, cap, cur, hv', hb, hg, hnc, hcap, hcs, ht⟩
    · injection hv' with _ _ hc
      omega
    · have hgw := hgl g cap hv'
      injection hv' with hA _ hc
      subst hA hc
      have hcell := fun j => cell_of_row w g j cur _ (0, 0) hg
      have hsp : ∀ j, j < l.length + 1 → (w.cell? ⟨g, 0 + j, none⟩).isSome = true := fun j hj => by
        rw [hcell, Array.getElem?_eq_getElem (by omega)]; rfl
      have hfz : ∀ j, w.frozen? ⟨g, j, none⟩ = false := fun j => h1.frozenAt j
      have hold : ∀ j v, (cellsS l)[j]? = some v → w.cell? ⟨g, 0 + j, none⟩ = some v := fun j v h => by
        have := h1.cells (g := g) rfl j v h
        rwa [Addr.add_lit] at this
      by_cases hlt : i < l.length
      · refine (Tryd.slices_Insert_string_shift g 0 l.length c i w0.heap.size 0 1 1 (cellsS l) [.string s] w hlt (by omega) hroom (by unfold maxLen at hcap; omega) (by omega) hcl rfl hold hsp (fun j _ => by rw [Nat.zero_add]; exact hfz j) hvc (cells_one l) h1v 9 9 1 cur.size hvs (by simp [World.shape?, hg]) (by omega) (hvf 0) (hvf 1)).mono ?_
        rintro e w' ⟨rfl, rfl⟩
        have hsm := World.cell?_setCells_in g ((cellsS l).drop i) (0 + (i + 1)) w.drew (fun j hj => by
          rw [List.length_drop, hcl] at hj
          have := hsp (i + 1 + j) (by omega)
          rwa [show 0 + (i + 1 + j) = 0 + (i + 1) + j by omega] at this)
        have hso := fun p hp => World.cell?_setCells_out g ((cellsS l).drop i) (0 + (i + 1)) w.drew p hp
        refine ⟨some ⟨g, 0, none⟩, c, by rw [insAt_len], ⟨by simp, fun _ => ⟨g, 0, rfl, ⟨hb, by rw [setCells_size, setCells_size]; show g < w.heap.size; omega⟩, fun j u hu => ?_⟩⟩, below_setCells hb _ _ _ (below_setCells hb _ _ _ hb1.drew)⟩
        obtain ⟨x, hx, rfl⟩ := cells_get hu
        rw [insAt_get hi] at hx
        by_cases j1 : j < i
        · rw [if_pos j1] at hx
          rw [World.cell?_setCells_out g _ _ _ ⟨g, 0 + j, none⟩ (fun _ _ => .inl (by dsimp only; omega)), hso ⟨g, 0 + j, none⟩ (fun _ _ => .inl (by dsimp only; omega))]
          exact hold j _ (by rw [List.getElem?_map, hx]; rfl)
        · rw [if_neg j1] at hx
          by_cases j2 : j = i
          · rw [if_pos j2] at hx
            cases hx
            subst j2
            have := World.cell?_setCells_in g [Value.string s] (0 + j) ((w.drew).setCells g (0 + (j + 1)) ((cellsS l).drop j)) (fun k hk => by
              have hk0 : k = 0 := by simp at hk; omega
              subst hk0
              rw [hso ⟨g, 0 + j + 0, none⟩ (fun _ _ => .inl (by dsimp only; omega))]
              exact hsp j (by omega)) 0 (by simp)
            exact this
          · rw [if_neg j2] at hx
            rw [World.cell?_setCells_out g _ _ _ ⟨g, 0 + j, none⟩ (fun _ _ => .inr (by simp; omega))]
            have hjl : j - 1 < l.length := (List.getElem?_eq_some_iff.1 hx).1
            have := hsm (j - (i + 1)) (by rw [List.length_drop, hcl]; omega)
            rw [show 0 + (i + 1) + (j - (i + 1)) = 0 + j by omega] at this
            rw [this, List.getElem_drop, List.getElem_map]
            congr 2
            have h9 : l[i + (j - (i + 1))]? = some x := by rw [show i + (j - (i + 1)) = j - 1 by omega]; exact hx
            exact (List.getElem?_eq_some_iff.1 h9).2
      · have hin : i = l.length := by omega
        subst hin
        refine (Tryd.slices_Insert_string_end_room g 0 l.length c w0.heap.size 0 1 1 [.string s] w (by omega) hroom (by unfold maxLen at hcap; omega) rfl (fun j hj => by have := hsp (l.length + j) (by omega); rwa [show 0 + (l.length + j) = 0 + l.length + j by omega] at this) (fun j _ => hfz _) hvc h1v).mono ?_
        rintro e w' ⟨rfl, rfl⟩
        refine ⟨some ⟨g, 0, none⟩, c, by rw [insAt_len], ⟨by simp, fun _ => ⟨g, 0, rfl, ⟨hb, by rw [setCells_size]; omega⟩, fun j u hu => ?_⟩⟩, below_setCells hb _ _ _ hb1⟩
        obtain ⟨x, hx, rfl⟩ := cells_get hu
        rw [insAt_get hi] at hx
        by_cases j1 : j < l.length
        · rw [if_pos j1] at hx
          rw [World.cell?_setCells_out g _ _ _ ⟨g, 0 + j, none⟩ (fun _ _ => .inl (by dsimp only; omega))]
          exact hold j _ (by rw [List.getElem?_map, hx]; rfl)
        · rw [if_neg j1] at hx
          by_cases j2 : j = l.length
          · rw [if_pos j2] at hx
            cases hx
            subst j2
            exact World.cell?_setCells_in g [Value.string s] (0 + l.length) w (fun k hk => by
              have hk0 : k = 0 := by simp at hk; omega
              subst hk0
              exact hsp l.length (by omega)) 0 (by simp)
          · rw [if_neg j2] at hx
            have := (List.getElem?_eq_some_iff.1 hx).1
            omega
  · have hnc : l.length ≤ c := by
      rcases h1.2 with ⟨hv', h0⟩ | ⟨g, cap, cur, hv', hb, hg, hnc, r⟩
      · omega
      · injection hv' with _ _ hc
        omega
    have hold : ∀ g, A = some g → ∀ j v, (cellsS l)[j]? = some v → w.cell? (g.add j) = some v := by
      rcases h1.2 with ⟨hv', h0⟩ | ⟨g, cap, cur, hv', hb, hg, hnc, hcap, hcs, ht⟩
      · injection hv' with hA
        intro g hgA
        rw [hA] at hgA
        cases hgA
      · injection hv' with hA
        intro g' hgA j v h
        rw [hA] at hgA
        cases hgA
        exact h1.cells (g := g) (by rw [hA]; rfl) j v h
    by_cases hlt : i < l.length
    · rcases h1.2 with ⟨hv', h0⟩ | ⟨g, cap, cur, hv', hb, hg, hnc', hcap, hcs, ht⟩
      · omega
      · injection hv' with hA
        have hold' : ∀ j v, (cellsS l)[j]? = some v → w.cell? ⟨g, 0 + j, none⟩ = some v := fun j v h => by
          have := hold ⟨g, 0, none⟩ hA j v h
          rwa [Addr.add_lit] at this
        subst hA
        refine (Tryd.slices_Insert_string_grow g 0 l.length c i w0.heap.size 0 1 1 (cellsS l) [.string s] w hlt (by omega) hnc (by omega) (by omega) hcl rfl hold' hvc (cells_one l) h1v).mono ?_
        rintro e w' ⟨rfl, rfl⟩
        have hBw : B ≤ w.heap.size := by omega
        have hrow := fun j => cell_of_row (w.alloc (.cells (((cellsS l).take i).toArray ++ Builtin.zeroCells (Value.string ⟨#[]⟩).cells (l.length + 1 - i) ++ Builtin.zeroCells (Value.string ⟨#[]⟩).cells (grownCap w (l.length + 1) c 9 - (l.length + 1))) 9)) w.heap.size j _ _ (0, 0) (heap_alloc_new w _)
        generalize hr : (((cellsS l).take i).toArray ++ Builtin.zeroCells (Value.string ⟨#[]⟩).cells (l.length + 1 - i) ++ Builtin.zeroCells (Value.string ⟨#[]⟩).cells (grownCap w (l.length + 1) c 9 - (l.length + 1))) = row at *
        have hrs : l.length + 1 ≤ row.size := by
          rw [← hr]
          simp [zero_size]
          omega
        have hr1 : ∀ j, j < i → row[j]? = (cellsS l)[j]? := fun j hj => by
          rw [← hr, Array.append_assoc, Array.getElem?_append_left (by simp; omega)]
          simp [List.getElem?_take_of_lt hj]
        have hal := (hb1.alloc hBw (.cells row 9)).drew
        have hsz1 : (w.alloc (.cells row 9)).heap.size = w.heap.size + 1 := by simp
        generalize w.alloc (.cells row 9) = wa at *
        have hsp : ∀ j, j < l.length + 1 → (wa.cell? ⟨w.heap.size, j, none⟩).isSome = true := fun j hj => by
          rw [hrow, Array.getElem?_eq_getElem (by omega)]; rfl
        refine ⟨some ⟨w.heap.size, 0, none⟩, _, by rw [insAt_len], ⟨by simp, fun _ => ⟨w.heap.size, 0, rfl, ⟨hBw, ?_⟩, fun j u hu => ?_⟩⟩, below_setCells hBw _ _ _ (below_setCells hBw _ _ _ hal).drew⟩
        · rw [setCells_size]
          show w.heap.size < (wa.drew.setCells w.heap.size i [Value.string s]).heap.size
          rw [setCells_size]
          show w.heap.size < wa.heap.size
          omega
        obtain ⟨x, hx, rfl⟩ := cells_get hu
        rw [insAt_get hi] at hx
        have hso := fun p hp => World.cell?_setCells_out w.heap.size [Value.string s] i wa.drew p hp
        have hsi := World.cell?_setCells_in w.heap.size [Value.string s] i wa.drew (fun k hk => by
          have hk0 : k = 0 := by simp at hk; omega
          subst hk0
          exact hsp i (by omega)) 0 (by simp)
        rw [Nat.zero_add]
        by_cases j1 : j < i
        · rw [if_pos j1] at hx
          rw [World.cell?_setCells_out w.heap.size _ _ _ ⟨w.heap.size, j, none⟩ (fun _ _ => .inl (by dsimp only; omega))]
          refine (hso ⟨w.heap.size, j, none⟩ (fun _ _ => .inl (by dsimp only; omega))).trans ?_
          refine (hrow j).trans ?_
          rw [hr1 j j1, List.getElem?_map, hx]; rfl
        · rw [if_neg j1] at hx
          by_cases j2 : j = i
          · rw [if_pos j2] at hx
            cases hx
            subst j2
            rw [World.cell?_setCells_out w.heap.size _ _ _ ⟨w.heap.size, j, none⟩ (fun _ _ => .inl (by dsimp only; omega))]
            exact hsi
          · rw [if_neg j2] at hx
            have hjl : j - 1 < l.length := (List.getElem?_eq_some_iff.1 hx).1
            have := World.cell?_setCells_in w.heap.size ((cellsS l).drop i) (i + 1) (wa.drew.setCells w.heap.size i [Value.string s]).drew (fun k hk => by
              rw [List.length_drop, hcl] at hk
              have h7 := hso ⟨w.heap.size, i + 1 + k, none⟩ (fun _ _ => .inr (by simp))
              have h8 := hsp (i + 1 + k) (by omega)
              rw [← show (wa.drew.setCells w.heap.size i [Value.string s]).cell? ⟨w.heap.size, i + 1 + k, none⟩ = wa.cell? ⟨w.heap.size, i + 1 + k, none⟩ from h7] at h8
              exact h8) (j - (i + 1)) (by rw [List.length_drop, hcl]; omega)
            rw [show i + 1 + (j - (i + 1)) = j by omega] at this
            rw [this, List.getElem_drop, List.getElem_map]
            congr 2
            have h9 : l[i + (j - (i + 1))]? = some x := by rw [show i + (j - (i + 1)) = j - 1 by omega]; exact hx
            exact (List.getElem?_eq_some_iff.1 h9).2
    · have hin : i = l.length := by omega
      subst hin
      refine (Tryd.slices_Insert_string_end_grow A l.length c w0.heap.size 0 1 1 (cellsS l) [.string s] w (by omega) hnc (by omega) (by omega) hcl rfl (fun hA => by
        rcases h1.2 with ⟨hv', h0⟩ | ⟨g, cap, cur, hv', r⟩
        · exact h0
        · rw [hA] at hv'; cases hv') hold hvc h1v).mono ?_
      rintro e w' ⟨rfl, rfl⟩
      have hBw : B ≤ w.heap.size := by omega
      have hrow := fun j => cell_of_row (w.drew.alloc (.cells ((cellsS l ++ [Value.string s]).toArray ++ Builtin.zeroCells (Value.string ⟨#[]⟩).cells (grownCap w (l.length + 1) c 9 - (l.length + 1))) 9)) w.heap.size j _ _ (0, 0) (heap_alloc_new w.drew _)
      refine ⟨some ⟨w.heap.size, 0, none⟩, _, by rw [insAt_len], ⟨by simp, fun _ => ⟨w.heap.size, 0, rfl, ⟨hBw, (Array.getElem?_eq_some_iff.1 (heap_alloc_new w.drew _)).1⟩, fun j u hu => ?_⟩⟩, hb1.drew.alloc hBw _⟩
      obtain ⟨x, hx, rfl⟩ := cells_get hu
      rw [Nat.zero_add]
      refine (hrow j).trans ?_
      have hj : j < l.length + 1 := by
        have := (List.getElem?_eq_some_iff.1 hu).1
        simpa [insAt_len] using this
      rw [Array.getElem?_append_left (by simp; omega)]
      have : cellsS (insAt l s l.length) = cellsS l ++ [Value.string s] := by unfold insAt; simp
      rw [← this]
      simpa using hu
end Go.Proofs.YtionchkblgpklaaDoor
