/- Deploy: slices.Delete. Deploy: slices.Insert. Deploy: one cell of an own environment stored anew. -/
import Derived.Test.YtennhjkhjplmoaaDoorDpY
import Derived.Deep.RegionLaw
import Derived.Deep.Upon
import Derived.Lib.BufferOwn
import Derived.Laws.OwnMore
import Derived.Lib.AppendZerosOnto
import Derived.Lib.Overlaps
import Derived.Laws.IdiomCopy
import Derived.Shelf.Spec.SlicesInsert
namespace Go.Proofs.YtennhjkhjplmoaaDoor
open Go.RowKit
theorem run_clear_oneK {P : Program} (w : World) (t e ty : TypeId) (z : Value) (zc : List Value) (ht : P.underlying t = some (.slice e)) (hv : ∀ w, (zeroValue e).run P w = .ok z w) (hz : (Builtin.zeroCells z.cells 1).toList = zc) (h1 : ∀ v ∈ zc, v.oneCell' = true) (b o c : Nat)
    (hc : ∀ j, j < zc.length → (w.cell? ⟨b, o + j, none⟩).isSome = true) (hf : ∀ j, j < zc.length → w.frozen? ⟨b, o + j, none⟩ = false) :
    (Builtin.clear_ #[t] ty #[.slice (some ⟨b, o, none⟩) 1 c]).run P w = .ok (.tuple #[]) (w.setCells b o zc) := by
  have hst := run_storeCells_cells (P := P) b o zc 0 w (by simpa using hc) (by simpa using hf) h1
  simp only [Nat.add_zero] at hst
  simp [Builtin.clear_, run_underlying ht, hv, hz, hst]
theorem heap_setCells_rowK {g : Nat} {e : TypeId} : ∀ (vs : List Value) (o : Nat) (w : World) (cur : Array Value), w.heap[g]? = some (.cells cur e (0, 0)) → ∃ cur', (w.setCells g o vs).heap[g]? = some (.cells cur' e (0, 0)) ∧ cur'.size = cur.size
  | [], _, _, cur, h => ⟨cur, h, rfl⟩
  | v :: r, o, w, cur, h => by
    obtain ⟨cur', h1, h2⟩ := heap_setCells_rowK r (o + 1) (w.setCell ⟨g, o, none⟩ v) (cur.setIfInBounds o v) (heap_setCell_same w g o cur e v h)
    exact ⟨cur', h1, by rw [h2]; simp⟩
theorem ownsRow_of_cellsK {w : World} {base g cap n sz : Nat} {e : TypeId} {cur : Array Value} {ys : List Value} (hb : base ≤ g) (hh : w.heap[g]? = some (.cells cur e (0, 0))) (hn : n ≤ cap) (hc : cap ≤ maxLen) (hs : cur.size = cap * sz) (hl : ys.length = n * sz)
    (hy : ∀ j u, ys[j]? = some u → w.cell? ⟨g, j, none⟩ = some u) : w.ownsRow base e sz (.slice (some ⟨g, 0, none⟩) n cap) n ys := by
  refine ⟨hl, .inr ⟨g, cap, cur, rfl, hb, hh, hn, hc, hs, ?_⟩⟩
  have hle : n * sz ≤ cap * sz := Nat.mul_le_mul_right _ hn
  apply List.ext_getElem?
  intro j
  by_cases hj : j < n * sz
  · have hjy : ys[j]? = some ys[j] := List.getElem?_eq_getElem (by omega)
    have h1 := hy j _ hjy
    rw [cell_of_row w g j cur e (0, 0) hh] at h1
    rw [List.getElem?_take_of_lt hj, hjy, ← h1]
    simp
  · rw [List.getElem?_eq_none (by simp; omega), List.getElem?_eq_none (by omega)]
set_option maxRecDepth 100000 in
set_option maxHeartbeats 4000000 in
theorem delR_any (xs : List Value) (g cap n i : Nat) (W0 w : World) (H : Own W0 w 29 2 (.slice (some ⟨g, 0, none⟩) n cap) n xs) (hi : i < n) (hl : n ≤ 1000000) (h1x : ∀ u ∈ xs, u.oneCell' = true) :
    Calls Tryd.prog 54 #[.slice (some ⟨g, 0, none⟩) n cap, .int .i64 (i : Int), .int .i64 ((i : Int) + 1)] w fun e w' => e = .returned (.slice (some ⟨g, 0, none⟩) (n - 1) cap) ∧ Own W0 w' 29 2 (.slice (some ⟨g, 0, none⟩) (n - 1) cap) (n - 1) (xs.take (i * 2) ++ xs.drop ((i + 1) * 2)) ∧ w.grownBy w' (some g) := by
  have hH := H.1.2
  have hxl : xs.length = n * 2 := H.1.1
  rcases hH with ⟨hv, h0⟩ | ⟨g', cap', cur, hv, hbg, hh, hnc, hcm, hcs, _⟩
  · cases hv
  simp only [Value.slice.injEq, Option.some.injEq, Addr.mk.injEq, and_true, true_and] at hv
  obtain ⟨rfl, rfl⟩ := hv
  have hcell : ∀ j u, xs[j]? = some u → w.cell? ⟨g, j, none⟩ = some u := fun j u hu => by
    have := H.1.cells (g := g) rfl j u hu
    rw [Addr.add_lit, Nat.zero_add] at this
    exact this
  have hfr : ∀ j, w.frozen? ⟨g, j, none⟩ = false := fun j => H.1.frozenAt j
  have hroomc : ∀ j, j < cap * 2 → (w.cell? ⟨g, j, none⟩).isSome = true := fun j hj => by
    rw [cell_of_row w g j cur _ (0, 0) hh]
    rw [Array.getElem?_eq_getElem (by omega)]
    rfl
  obtain ⟨i0, hi0, hz0, hz1, hz2⟩ := info_parts ref_info
  obtain ⟨news, hnews⟩ : ∃ news, news = xs.drop ((i + 1) * 2) := ⟨_, rfl⟩
  have hlen : news.length = (n - (i + 1)) * 2 := by rw [hnews, List.length_drop, hxl, Nat.sub_mul]
  obtain ⟨A, hA, hsrc⟩ : ∃ A : Addr, (if cap = i + 1 then (some ⟨g, 0, none⟩ : Option Addr) else some ⟨g, (i + 1) * 2, none⟩) = some A ∧ Hid (∀ t u, news[t]? = some u → w.drew.cell? (A.add t) = some u) := by
    by_cases h : cap = i + 1
    · refine ⟨⟨g, 0, none⟩, by rw [if_pos h], fun t u hu => ?_⟩
      have h0 : news.length = 0 := by rw [hlen, show n - (i + 1) = 0 from by omega, Nat.zero_mul]
      rw [List.length_eq_zero_iff.1 h0] at hu
      simp at hu
    · refine ⟨⟨g, (i + 1) * 2, none⟩, by rw [if_neg h], fun t u hu => ?_⟩
      rw [hnews, List.getElem?_drop] at hu
      rw [Addr.add_lit]
      exact hcell _ _ hu
  have s1 : Hid (news.length = (n - (i + 1)) * 2) := hlen
  have s2 : Hid (∀ u ∈ news, u.oneCell' = true) := by rw [hnews]; exact fun u hu => h1x u (List.mem_of_mem_drop hu)
  have s3 : Hid (∀ t, t < news.length → (w.drew.cell? ⟨g, 0 + i * 2 + t, none⟩).isSome = true ∧ w.drew.frozen? ⟨g, 0 + i * 2 + t, none⟩ = false) := by
    intro t ht
    rw [hlen] at ht
    rw [Nat.zero_add]
    exact ⟨hroomc _ (by omega), hfr _⟩
  obtain ⟨W1, hW1⟩ : ∃ W1, W1 = w.drew.setCells g (0 + i * 2) news := ⟨_, rfl⟩
  have hf1 : ∀ j, W1.frozen? ⟨g, j, none⟩ = false := fun j => by rw [hW1, World.frozen?_setCells]; exact hfr j
  obtain ⟨cur1, hh1, hcs1⟩ := heap_setCells_rowK (g := g) news (0 + i * 2) w.drew cur hh
  rw [← hW1] at hh1
  have hroom1 : ∀ j, j < cap * 2 → (W1.cell? ⟨g, j, none⟩).isSome = true := fun j hj => by
    rw [cell_of_row W1 g j cur1 _ (0, 0) hh1, Array.getElem?_eq_getElem (by omega)]
    rfl
  have hcl : ∀ ty, (Builtin.clear_ #[58] ty #[.slice (some ⟨g, (n - 1) * 2, none⟩) 1 (cap - (n - 1))]).run Tryd.prog W1 = .ok (.tuple #[]) (W1.setCells g ((n - 1) * 2) [.string ⟨#[]⟩, .string ⟨#[]⟩]) := fun ty =>
    run_clear_oneK W1 _ _ ty (.agg #[.string ⟨#[]⟩, .string ⟨#[]⟩]) [.string ⟨#[]⟩, .string ⟨#[]⟩] Tryd.underlying58 (fun w => by kernel_rfl) (by kernel_rfl) (by decide) g ((n - 1) * 2) _ (fun j hj => hroom1 _ (by simp at hj; omega)) (fun j _ => hf1 _)
  obtain ⟨W2, hW2⟩ : ∃ W2, W2 = W1.setCells g ((n - 1) * 2) [.string ⟨#[]⟩, .string ⟨#[]⟩] := ⟨_, rfl⟩
  rw [← hW2] at hcl
  have hg2 : w.grownBy W2 (some g) := by
    rw [hW2, hW1]
    exact grow_setCellsK _ _ _ (grow_setCellsK _ _ _ ⟨rfl, rfl, rfl, Nat.le_refl _, fun _ _ _ => rfl⟩)
  obtain ⟨cur2, hh2, hcs2⟩ := heap_setCells_rowK (g := g) [.string ⟨#[]⟩, .string ⟨#[]⟩] ((n - 1) * 2) W1 cur1 hh1
  rw [← hW2] at hh2
  have htl : (xs.take (i * 2)).length = i * 2 := by rw [List.length_take, hxl]; omega
  have hE : (xs.take (i * 2) ++ news).length = (n - 1) * 2 := by rw [List.length_append, htl, hlen]; omega
  have hO : Own W0 W2 29 2 (.slice (some ⟨g, 0, none⟩) (n - 1) cap) (n - 1) (xs.take (i * 2) ++ news) := by
    refine ⟨?_, H.2.grown hg2 H.2.size (fun k hk => by injection hk with hk; omega)⟩
    refine ownsRow_of_cellsK hbg hh2 (by omega) hcm (by omega) hE (fun j u hu => ?_)
    have hj : j < (n - 1) * 2 := by
      have := (List.getElem?_eq_some_iff.1 hu).1
      rw [hE] at this
      exact this
    rw [hW2, World.cell?_setCells_out g [.string ⟨#[]⟩, .string ⟨#[]⟩] _ _ _ (fun _ _ => .inl hj)]
    by_cases hji : j < i * 2
    · rw [List.getElem?_append_left (by rw [htl]; exact hji), List.getElem?_take_of_lt hji] at hu
      rw [hW1, World.cell?_setCells_out g news _ _ _ (fun _ _ => .inl (by rw [Nat.zero_add]; exact hji))]
      exact hcell _ _ hu
    · rw [List.getElem?_append_right (by rw [htl]; omega), htl] at hu
      have hjn := (List.getElem?_eq_some_iff.1 hu).1
      have := World.cell?_setCells_in g news (0 + i * 2) w.drew (fun t ht => (s3.out t ht).1) (j - i * 2) hjn
      rw [show 0 + i * 2 + (j - i * 2) = j from by omega] at this
      rw [hW1, this]
      have h2 := List.getElem?_eq_getElem hjn
      rw [h2] at hu
      exact hu
  have hW : Hid (W1 = w.drew.setCells g (0 + i * 2) news) := hW1
  rw [hnews] at hO
  replace hO := Lib.hid hO
  have hic : (i : Int) ≤ (cap : Int) := by omega
  have j0 : (0 : Int) ≤ (i : Int) := by omega
  have j1 : (i : Int) ≤ (i : Int) + 1 := by omega
  have j2 : (i : Int) + 1 ≤ (n : Int) := by omega
  have j3 : (n : Int) ≤ (cap : Int) := by omega
  have j4 : ((i : Int) == (i : Int) + 1) = false := by simp; omega
  have j5 : (i : Int) + 1 ≤ (cap : Int) := by omega
  have j6 : (0 : Int) ≤ (i : Int) + 1 := by omega
  have mixed : Tryd.prog.follows .mixedOrders = true := by kernel_rfl
  clear hW1 hh1 hcs1 hroom1 hf1 hcell hnews hlen hW2 hh2 hcs2 hE hroomc hfr hh hcs H htl hxl h1x
  go_enter Tryd.func54, Tryd.ntmps54
  repeat' ((fail_if_success at_builtin); (first | go_skip | go_guarded | go_step))
  go_region_law_o (refine step_append_room rfl (.tmp 22) (.tmp 25) 58 rfl 29 i0 2 Tryd.underlying58 hi0 hz1 g 0 i cap (by simp [Act.eval, Act.put]) A (n - (i + 1)) (cap - (i + 1)) news (by simp [Act.eval, Act.put]) s1.out hsrc.out s2.out (by omega) s3.out ?_; rw [← hW.out])
  repeat' ((fail_if_success at_builtin); (first | go_skip | go_guarded | go_step))
  rw [show i + (n - (i + 1)) = n - 1 from by omega, show n - (n - 1) = 1 from by omega, hcl]
  simp only [Result.andThen, Oper.upon]
  repeat' ((fail_if_success at_builtin); (first | go_skip | go_guarded | go_step))
  go_ret
  exact ⟨rfl, hO.out, hg2⟩
set_option maxRecDepth 100000 in
set_option maxHeartbeats 4000000 in
theorem delD_any (xs : List Value) (g cap n i : Nat) (W0 w : World) (H : Own W0 w 40 5 (.slice (some ⟨g, 0, none⟩) n cap) n xs) (hi : i < n) (hl : n ≤ 1000000) (h1x : ∀ u ∈ xs, u.oneCell' = true) :
    Calls Tryd.prog 56 #[.slice (some ⟨g, 0, none⟩) n cap, .int .i64 (i : Int), .int .i64 ((i : Int) + 1)] w fun e w' => e = .returned (.slice (some ⟨g, 0, none⟩) (n - 1) cap) ∧ Own W0 w' 40 5 (.slice (some ⟨g, 0, none⟩) (n - 1) cap) (n - 1) (xs.take (i * 5) ++ xs.drop ((i + 1) * 5)) ∧ w.grownBy w' (some g) := by
  have hH := H.1.2
  have hxl : xs.length = n * 5 := H.1.1
  rcases hH with ⟨hv, h0⟩ | ⟨g', cap', cur, hv, hbg, hh, hnc, hcm, hcs, _⟩
  · cases hv
  simp only [Value.slice.injEq, Option.some.injEq, Addr.mk.injEq, and_true, true_and] at hv
  obtain ⟨rfl, rfl⟩ := hv
  have hcell : ∀ j u, xs[j]? = some u → w.cell? ⟨g, j, none⟩ = some u := fun j u hu => by
    have := H.1.cells (g := g) rfl j u hu
    rw [Addr.add_lit, Nat.zero_add] at this
    exact this
  have hfr : ∀ j, w.frozen? ⟨g, j, none⟩ = false := fun j => H.1.frozenAt j
  have hroomc : ∀ j, j < cap * 5 → (w.cell? ⟨g, j, none⟩).isSome = true := fun j hj => by
    rw [cell_of_row w g j cur _ (0, 0) hh]
    rw [Array.getElem?_eq_getElem (by omega)]
    rfl
  obtain ⟨i0, hi0, hz0, hz1, hz2⟩ := info_parts dep_info
  obtain ⟨news, hnews⟩ : ∃ news, news = xs.drop ((i + 1) * 5) := ⟨_, rfl⟩
  have hlen : news.length = (n - (i + 1)) * 5 := by rw [hnews, List.length_drop, hxl, Nat.sub_mul]
  obtain ⟨A, hA, hsrc⟩ : ∃ A : Addr, (if cap = i + 1 then (some ⟨g, 0, none⟩ : Option Addr) else some ⟨g, (i + 1) * 5, none⟩) = some A ∧ Hid (∀ t u, news[t]? = some u → w.drew.cell? (A.add t) = some u) := by
    by_cases h : cap = i + 1
    · refine ⟨⟨g, 0, none⟩, by rw [if_pos h], fun t u hu => ?_⟩
      have h0 : news.length = 0 := by rw [hlen, show n - (i + 1) = 0 from by omega, Nat.zero_mul]
      rw [List.length_eq_zero_iff.1 h0] at hu
      simp at hu
    · refine ⟨⟨g, (i + 1) * 5, none⟩, by rw [if_neg h], fun t u hu => ?_⟩
      rw [hnews, List.getElem?_drop] at hu
      rw [Addr.add_lit]
      exact hcell _ _ hu
  have s1 : Hid (news.length = (n - (i + 1)) * 5) := hlen
  have s2 : Hid (∀ u ∈ news, u.oneCell' = true) := by rw [hnews]; exact fun u hu => h1x u (List.mem_of_mem_drop hu)
  have s3 : Hid (∀ t, t < news.length → (w.drew.cell? ⟨g, 0 + i * 5 + t, none⟩).isSome = true ∧ w.drew.frozen? ⟨g, 0 + i * 5 + t, none⟩ = false) := by
    intro t ht
    rw [hlen] at ht
    rw [Nat.zero_add]
    exact ⟨hroomc _ (by omega), hfr _⟩
  obtain ⟨W1, hW1⟩ : ∃ W1, W1 = w.drew.setCells g (0 + i * 5) news := ⟨_, rfl⟩
  have hf1 : ∀ j, W1.frozen? ⟨g, j, none⟩ = false := fun j => by rw [hW1, World.frozen?_setCells]; exact hfr j
  obtain ⟨cur1, hh1, hcs1⟩ := heap_setCells_rowK (g := g) news (0 + i * 5) w.drew cur hh
  rw [← hW1] at hh1
  have hroom1 : ∀ j, j < cap * 5 → (W1.cell? ⟨g, j, none⟩).isSome = true := fun j hj => by
    rw [cell_of_row W1 g j cur1 _ (0, 0) hh1, Array.getElem?_eq_getElem (by omega)]
    rfl
  have hcl : ∀ ty, (Builtin.clear_ #[59] ty #[.slice (some ⟨g, (n - 1) * 5, none⟩) 1 (cap - (n - 1))]).run Tryd.prog W1 = .ok (.tuple #[]) (W1.setCells g ((n - 1) * 5) [.string ⟨#[]⟩, .string ⟨#[]⟩, .int .u64 0, .int .i64 0, .int .i64 0]) := fun ty =>
    run_clear_oneK W1 _ _ ty (.agg #[.string ⟨#[]⟩, .string ⟨#[]⟩, .int .u64 0, .int .i64 0, .int .i64 0]) [.string ⟨#[]⟩, .string ⟨#[]⟩, .int .u64 0, .int .i64 0, .int .i64 0] Tryd.underlying59 (fun w => by kernel_rfl) (by kernel_rfl) (by decide) g ((n - 1) * 5) _ (fun j hj => hroom1 _ (by simp at hj; omega)) (fun j _ => hf1 _)
  obtain ⟨W2, hW2⟩ : ∃ W2, W2 = W1.setCells g ((n - 1) * 5) [.string ⟨#[]⟩, .string ⟨#[]⟩, .int .u64 0, .int .i64 0, .int .i64 0] := ⟨_, rfl⟩
  rw [← hW2] at hcl
  have hg2 : w.grownBy W2 (some g) := by
    rw [hW2, hW1]
    exact grow_setCellsK _ _ _ (grow_setCellsK _ _ _ ⟨rfl, rfl, rfl, Nat.le_refl _, fun _ _ _ => rfl⟩)
  obtain ⟨cur2, hh2, hcs2⟩ := heap_setCells_rowK (g := g) [.string ⟨#[]⟩, .string ⟨#[]⟩, .int .u64 0, .int .i64 0, .int .i64 0] ((n - 1) * 5) W1 cur1 hh1
  rw [← hW2] at hh2
  have htl : (xs.take (i * 5)).length = i * 5 := by rw [List.length_take, hxl]; omega
  have hE : (xs.take (i * 5) ++ news).length = (n - 1) * 5 := by rw [List.length_append, htl, hlen]; omega
  have hO : Own W0 W2 40 5 (.slice (some ⟨g, 0, none⟩) (n - 1) cap) (n - 1) (xs.take (i * 5) ++ news) := by
    refine ⟨?_, H.2.grown hg2 H.2.size (fun k hk => by injection hk with hk; omega)⟩
    refine ownsRow_of_cellsK hbg hh2 (by omega) hcm (by omega) hE (fun j u hu => ?_)
    have hj : j < (n - 1) * 5 := by
      have := (List.getElem?_eq_some_iff.1 hu).1
      rw [hE] at this
      exact this
    rw [hW2, World.cell?_setCells_out g [.string ⟨#[]⟩, .string ⟨#[]⟩, .int .u64 0, .int .i64 0, .int .i64 0] _ _ _ (fun _ _ => .inl hj)]
    by_cases hji : j < i * 5
    · rw [List.getElem?_append_left (by rw [htl]; exact hji), List.getElem?_take_of_lt hji] at hu
      rw [hW1, World.cell?_setCells_out g news _ _ _ (fun _ _ => .inl (by rw [Nat.zero_add]; exact hji))]
      exact hcell _ _ hu
    · rw [List.getElem?_append_right (by rw [htl]; omega), htl] at hu
      have hjn := (List.getElem?_eq_some_iff.1 hu).1
      have := World.cell?_setCells_in g news (0 + i * 5) w.drew (fun t ht => (s3.out t ht).1) (j - i * 5) hjn
      rw [show 0 + i * 5 + (j - i * 5) = j from by omega] at this
      rw [hW1, this]
      have h2 := List.getElem?_eq_getElem hjn
      rw [h2] at hu
      exact hu
  have hW : Hid (W1 = w.drew.setCells g (0 + i * 5) news) := hW1
  rw [hnews] at hO
  replace hO := Lib.hid hO
  have hic : (i : Int) ≤ (cap : Int) := by omega
  have j0 : (0 : Int) ≤ (i : Int) := by omega
  have j1 : (i : Int) ≤ (i : Int) + 1 := by omega
  have j2 : (i : Int) + 1 ≤ (n : Int) := by omega
  have j3 : (n : Int) ≤ (cap : Int) := by omega
  have j4 : ((i : Int) == (i : Int) + 1) = false := by simp; omega
  have j5 : (i : Int) + 1 ≤ (cap : Int) := by omega
  have j6 : (0 : Int) ≤ (i : Int) + 1 := by omega
  have mixed : Tryd.prog.follows .mixedOrders = true := by kernel_rfl
  clear hW1 hh1 hcs1 hroom1 hf1 hcell hnews hlen hW2 hh2 hcs2 hE hroomc hfr hh hcs H htl hxl h1x
  go_enter Tryd.func56, Tryd.ntmps56
  repeat' ((fail_if_success at_builtin); (first | go_skip | go_guarded | go_step))
  go_region_law_o (refine step_append_room rfl (.tmp 22) (.tmp 25) 59 rfl 40 i0 5 Tryd.underlying59 hi0 hz1 g 0 i cap (by simp [Act.eval, Act.put]) A (n - (i + 1)) (cap - (i + 1)) news (by simp [Act.eval, Act.put]) s1.out hsrc.out s2.out (by omega) s3.out ?_; rw [← hW.out])
  repeat' ((fail_if_success at_builtin); (first | go_skip | go_guarded | go_step))
  rw [show i + (n - (i + 1)) = n - 1 from by omega, show n - (n - 1) = 1 from by omega, hcl]
  simp only [Result.andThen, Oper.upon]
  repeat' ((fail_if_success at_builtin); (first | go_skip | go_guarded | go_step))
  go_ret
  exact ⟨rfl, hO.out, hg2⟩
end Go.Proofs.YtennhjkhjplmoaaDoor
namespace Go.Proofs.YtennhjkhjplmoaaDoor
open Go.RowKit
theorem seq_lohi {w : World} {B n sz c : Nat} {e : TypeId} {A : Option Addr} {xs : List Value} (h : w.ownsRow B e sz (.slice A n c) n xs) : SeqP w (fun b => B ≤ b ∧ b < w.heap.size) sz A n xs := by
  refine ⟨h.1, fun hn => ?_⟩
  rcases h.2 with ⟨hv, h0⟩ | ⟨g, cap, cur, hv, hb, hg, hnc, _, hcs, ht⟩
  · omega
  · injection hv with hA
    subst hA
    refine ⟨g, 0, rfl, ⟨hb, (Array.getElem?_eq_some_iff.1 hg).1⟩, fun j u hu => ?_⟩
    have := h.cells (g := g) rfl j u hu
    rw [Addr.add_lit] at this
    exact this
theorem Own.frz {w0 w : World} {e : TypeId} {sz n c m : Nat} {A : Option Addr} {xs : List Value} (h : Own w0 w e sz (.slice A n c) m xs) : ∀ b o, A = some ⟨b, o, none⟩ → ∀ j, w.frozen? ⟨b, j, none⟩ = false := by
  intro b o hA j
  rcases h.1.2 with ⟨hv, _⟩ | ⟨g, cap, cur, hv, hb, hg, _⟩
  · injection hv with h1
    rw [hA] at h1; cases h1
  · injection hv with h1
    rw [hA] at h1
    injection h1 with h1
    injection h1 with h1 _
    subst h1
    rw [World.frozen?, hg]
    simp
set_option maxRecDepth 100000 in
set_option maxHeartbeats 6000000 in
theorem insC_any (cs vs : List Value) (n c i : Nat) (A : Option Addr) (w0 wb : World) (H : Own w0 wb 61 5 (.slice A n c) n cs) (hi : i ≤ n) (hl : n ≤ 1000000) (hvl : vs.length = 5) (h1c : ∀ v ∈ cs, v.oneCell' = true) (h1v : ∀ v ∈ vs, v.oneCell' = true) :
    Calls Tryd.prog 43 #[.slice A n c, .int .i64 (i : Int), .slice (some ⟨wb.heap.size, 0, none⟩) 1 1] (wb.alloc (.cells vs.toArray 61)) fun e w' => ∃ A' c', e = .returned (.slice A' (n + 1) c') ∧ Own w0 w' 61 5 (.slice A' (n + 1) c') (n + 1) (cs.take (i * 5) ++ vs ++ cs.drop (i * 5)) ∧ (∀ b, Value.ownBlock (.slice A' (n + 1) c') = some b → Value.ownBlock (.slice A n c) = some b ∨ wb.heap.size ≤ b) ∧ (wb.alloc (.cells vs.toArray 61)).grownBy w' (Value.ownBlock (.slice A n c)) := by
  have hcl : cs.length = n * 5 := H.1.1
  have hB := H.2.size
  by_cases hin : i = n
  · subst hin
    have hby : (i + 1) * 96 ≤ 140737488355328 := by omega
    have e1 : (i : Int) ≤ (c : Int) := by have := H.cap_le; omega
    rw [List.take_of_length_le (by omega), List.drop_of_length_le (by omega), List.append_nil]
    replace hcl := Lib.hid hcl
    go_enter Tryd.func43, Tryd.ntmps43
    repeat' ((fail_if_success at_builtin); (first | go_skip | go_guarded | go_step))
    refine wp_appL (m := 1) H Tryd.underlying22 env_info hby ?_ (hcs := by simp [hvl]) (h1 := by simpa [List.all_eq_true] using h1v)
    intro v w' ho hg
    obtain ⟨A', c', rfl⟩ := ho.slice_form
    replace ho := Lib.hid ho
    replace hg := Lib.hid hg
    repeat' ((fail_if_success at_builtin); (first | go_skip | go_guarded | go_step))
    go_ret
    exact ⟨A', c', rfl, ho.out, fun b hb => by (rcases hg.out.at_ with h1 | h1 <;> rw [h1] at hb); (exact .inl hb); (injection hb with hb; rw [← hb]; exact .inr (Nat.le_of_lt (by simp))), hg.out.by_⟩
  · have hlt : i < n := by omega
    rcases H.1.2 with ⟨hv', h0⟩ | ⟨g, cap, cur, hv', hb, hg, hnc, hcap, hcs, ht⟩
    · omega
    injection hv' with hA _ hc
    subst hA hc
    have hrow0 := hg
    have hB2 := H.2
    have hcap2 := hcap
    have hcs2 := hcs
    have hgw : g < wb.heap.size := (Array.getElem?_eq_some_iff.1 hg).1
    have hba := (Below.refl wb.heap.size wb).alloc (Nat.le_refl _) (.cells vs.toArray 61)
    have hold : ∀ j v, cs[j]? = some v → wb.cell? ⟨g, j, none⟩ = some v := fun j v h => by
      have := H.1.cells (g := g) rfl j v h
      rwa [Addr.add_lit, Nat.zero_add] at this
    have hrow := fun j => cell_of_row wb g j cur _ (0, 0) hg
    have hsp0 : ∀ j, j < c * 5 → (wb.cell? ⟨g, j, none⟩).isSome = true := fun j hj => by rw [hrow, Array.getElem?_eq_getElem (by omega)]; rfl
    have hfz0 : ∀ j, wb.frozen? ⟨g, j, none⟩ = false := fun j => H.1.frozenAt j
    have hvc0 : ∀ j v, vs[j]? = some v → (wb.alloc (.cells vs.toArray 61)).cell? ⟨wb.heap.size, j, none⟩ = some v := fun j v h => (CellsAt.new wb vs.toArray 61).cell j v (by simpa using h)
    have hvf0 : ∀ j, (wb.alloc (.cells vs.toArray 61)).frozen? ⟨wb.heap.size, j, none⟩ = false := (CellsAt.new wb vs.toArray 61).fr
    have hsa : (wb.alloc (.cells vs.toArray 61)).shape? wb.heap.size = some (61, 5) := by
      unfold World.shape?
      rw [heap_alloc_new]
      simp [hvl]
    have hsb : (wb.alloc (.cells vs.toArray 61)).shape? g = some (61, cur.size) := by
      unfold World.shape?
      rw [hba.block g hgw, hg]
    have hkB : cur.size ≠ 0 := by omega
    have hsz : (wb.alloc (.cells vs.toArray 61)).heap.size = wb.heap.size + 1 := by simp
    have hold1 : ∀ j v, cs[j]? = some v → (wb.alloc (.cells vs.toArray 61)).cell? ⟨g, j, none⟩ = some v := fun j v h => (hba.cell (p := ⟨g, j, none⟩) hgw).trans (hold j v h)
    have hsp1 : ∀ j, j < c * 5 → ((wb.alloc (.cells vs.toArray 61)).cell? ⟨g, j, none⟩).isSome = true := fun j hj => by rw [hba.cell (p := ⟨g, j, none⟩) hgw]; exact hsp0 j hj
    have hfz1 : ∀ j, (wb.alloc (.cells vs.toArray 61)).frozen? ⟨g, j, none⟩ = false := fun j => (hba.frozen (p := ⟨g, j, none⟩) hgw).trans (hfz0 j)
    have hgr : (wb.alloc (.cells vs.toArray 61)).grownBy (wb.alloc (.cells vs.toArray 61)) (some g) := World.grownBy.refl _ _
    have hob : Value.ownBlock (.slice (some ⟨g, 0, none⟩) n c) = some g := rfl
    rw [hob]
    clear hold hrow hsp0 hfz0 ht
    have hrowa : (wb.alloc (.cells vs.toArray 61)).heap[g]? = some (.cells cur 61 (0, 0)) := by rw [hba.block g hgw]; exact hrow0
    have hBa : Below w0.heap.size w0 (wb.alloc (.cells vs.toArray 61)) := hB2.alloc hB2.size _
    clear hrow0 hB2
    generalize hvb : wb.heap.size = vb at *
    generalize (wb.alloc (.cells vs.toArray 61)) = w at *
    have hne : vb ≠ g := by omega
    have hdl : (cs.drop (i * 5)).length = (n - i) * 5 := by rw [List.length_drop, hcl, Nat.sub_mul]
    have h1d : ∀ v ∈ cs.drop (i * 5), v.oneCell' = true := fun v hv => h1c v (List.mem_of_mem_drop hv)
    obtain ⟨i0, hi0, hz0, hzs, hzb⟩ := info_parts env_info
    have hinf : (Tryd.prog.info? 61).map (·.size) = some 5 := by rw [hi0]; simp [hzs]
    have hins := fun j => ins_getK (cs := cs) (vs := vs) (p := i * 5) (k := 5) (by rw [hcl]; exact Nat.mul_le_mul_right _ hi) hvl j
    have hw1 : IntKind.i64.wrap ((i : Int) + 1) = (i : Int) + 1 := IntWalk.i64_in _ (by omega)
    have hw2 : IntKind.i64.wrap ((n : Int) + 1) = (n : Int) + 1 := IntWalk.i64_in _ (by omega)
    have mixed : Tryd.prog.follows .mixedOrders = true := by kernel_rfl
    have hz2 : ((i : Int) == (n : Int)) = false := by simp; omega
    have k1 : (i : Int) ≤ (c : Int) := by omega
    have k2 : (0 : Int) ≤ (i : Int) := by omega
    have k2b : (i : Int) ≤ (n : Int) := by omega
    have k2c : (n : Int) ≤ (c : Int) := by omega
    have k2d : (i : Int) + 1 ≤ (n : Int) + 1 := by omega
    have k2e : (0 : Int) ≤ (i : Int) + 1 := by omega
    have k2f : (i : Int) ≤ (n : Int) + 1 := by omega
    by_cases hroom : n + 1 ≤ c
    · have b2 : ¬ (c = i + 1) := by omega
      have b4 : ¬ (c = i) := by omega
      have b5 : (n : Int) + 1 ≤ (c : Int) := by omega
      have b6 : ¬ (c : Int) < (n : Int) + 1 := by omega
      have b7 : (i : Int) + 1 ≤ (c : Int) := by omega
      have hov : ∀ lb cb, (callFunc 77 #[.slice (some ⟨vb, 0, none⟩) 1 1, .slice (some ⟨g, (i + 1) * 5, none⟩) lb cb]).run Tryd.prog w = .ok (.value (.bool false)) w := fun lb cb => by
        rw [run_callFunc_extern Tryd.func77 (by kernel_rfl) (by kernel_rfl) (by kernel_rfl) (e := Extern.SlicesOverlaps.overlaps #[22, 22] #[4]) (by kernel_rfl),
          Lib.run_overlaps_apart w 22 4 61 Tryd.underlying22 5 Tryd.sizeOf61 ⟨vb, 0, none⟩ ⟨g, (i + 1) * 5, none⟩ 1 1 lb cb hne 61 61 5 cur.size hsa hsb hkB (hvf0 0) (hvf0 5)]
        rfl
      have hcp1 : ∀ ty dc sc, (Builtin.copy_ #[22, 22] ty #[.slice (some ⟨g, (i + 1) * 5, none⟩) (n - i) dc, .slice (some ⟨g, i * 5, none⟩) (n + 1 - i) sc]).run Tryd.prog w.drew = .ok (goInt (Nat.min (n + 1 - i) (n - i))) (w.drew.setCells g ((i + 1) * 5) (cs.drop (i * 5))) := fun ty dc sc =>
        run_copy_cellsK w.drew _ _ ty 61 g ((i + 1) * 5) (n - i) dc ⟨g, i * 5, none⟩ (n + 1 - i) sc 5 (cs.drop (i * 5)) Tryd.underlying22 hinf (by rw [hdl, show Nat.min (n + 1 - i) (n - i) = n - i from by simp only [Nat.min_def]; split <;> omega])
          (fun j v hj => by rw [Addr.add_lit]; exact hold1 _ v (by rwa [List.getElem?_drop] at hj)) (fun j hj => hsp1 _ (by omega)) (fun j _ => hfz1 _) h1d
      obtain ⟨W1, hW1⟩ : ∃ W1, W1 = w.drew.setCells g ((i + 1) * 5) (cs.drop (i * 5)) := ⟨_, rfl⟩
      have hspW : ∀ k, k < (n + 1) * 5 → (W1.cell? ⟨g, k, none⟩).isSome = true := fun k hk => by
        rw [hW1]
        exact isSome_setCellsK g (cs.drop (i * 5)) _ _ (fun j hj => by rw [hdl] at hj; exact hsp1 _ (by omega)) _ (hsp1 k (by omega))
      have hfzW : ∀ k, W1.frozen? ⟨g, k, none⟩ = false := fun k => by rw [hW1, World.frozen?_setCells]; exact hfz1 k
      have hcp2 : ∀ (W : World), (∀ x, W.cell? x = W1.cell? x) → (∀ x, W.frozen? x = W1.frozen? x) → ∀ ty dc, (Builtin.copy_ #[22, 22] ty #[.slice (some ⟨g, i * 5, none⟩) (n + 1 - i) dc, .slice (some ⟨vb, 0, none⟩) 1 1]).run Tryd.prog W = .ok (goInt (Nat.min 1 (n + 1 - i))) (W.setCells g (i * 5) vs) := fun W hWc hWf ty dc =>
        run_copy_cellsK W _ _ ty 61 g (i * 5) (n + 1 - i) dc ⟨vb, 0, none⟩ 1 1 5 vs Tryd.underlying22 hinf (by rw [hvl, show Nat.min 1 (n + 1 - i) = 1 from by simp only [Nat.min_def]; split <;> omega])
          (fun j v hj => by
            rw [Addr.add_lit, hWc, hW1, World.cell?_setCells_out g _ _ _ _ (fun h _ => absurd h hne), Nat.zero_add]
            exact hvc0 j v hj)
          (fun j hj => by rw [hWc]; exact hspW _ (by omega)) (fun j _ => by rw [hWf]; exact hfzW _) h1v
      have hfin : ∀ W, W = W1.setCells g (i * 5) vs → SeqP W (fun b => w0.heap.size ≤ b ∧ b < W.heap.size) 5 (some ⟨g, 0, none⟩) (n + 1) (cs.take (i * 5) ++ vs ++ cs.drop (i * 5)) ∧ w.grownBy W (some g) ∧ Own w0 W 61 5 (.slice (some ⟨g, 0, none⟩) (n + 1) c) (n + 1) (cs.take (i * 5) ++ vs ++ cs.drop (i * 5)) := by
        rintro W rfl
        suffices hq : _ ∧ _ by
          refine ⟨hq.1, hq.2, ?_, hBa.grown hq.2 hBa.size (fun k hk => by injection hk with hk; omega)⟩
          obtain ⟨cur1, a1, a2⟩ := heap_setCells_rowK (g := g) (cs.drop (i * 5)) ((i + 1) * 5) w.drew cur hrowa
          rw [← hW1] at a1
          obtain ⟨cur2, a3, a4⟩ := heap_setCells_rowK (g := g) vs (i * 5) W1 cur1 a1
          exact ownsRow_of_cellsK hb a3 hroom hcap2 (by omega) hq.1.1 (fun j u hu => by
            obtain ⟨b, o, e, _, hc⟩ := hq.1.2 (by omega)
            injection e with e
            injection e with e1 e2
            subst e1 e2
            have := hc j u hu
            rwa [Nat.zero_add] at this)
        refine ⟨⟨by simp only [List.length_append, List.length_take, List.length_drop]; omega, fun _ => ⟨g, 0, rfl, ⟨hb, by rw [setCells_size2, hW1, setCells_size2]; show g < w.heap.size; omega⟩, fun j u hu => ?_⟩⟩, grow_setCellsK _ _ _ (by rw [hW1]; exact grow_setCellsK _ _ _ ⟨rfl, rfl, rfl, Nat.le_refl _, fun _ _ _ => rfl⟩)⟩
        rw [Nat.zero_add]
        rw [hins] at hu
        by_cases j1 : j < i * 5
        · rw [if_pos j1] at hu
          rw [World.cell?_setCells_out g _ _ _ ⟨g, j, none⟩ (fun _ _ => .inl j1), hW1, World.cell?_setCells_out g _ _ _ ⟨g, j, none⟩ (fun _ _ => .inl (by dsimp only; omega))]
          exact hold1 j u hu
        · rw [if_neg j1] at hu
          by_cases j2 : j < i * 5 + 5
          · rw [if_pos j2] at hu
            have := World.cell?_setCells_in g vs (i * 5) W1 (fun k hk => hspW _ (by omega)) (j - i * 5) (by omega)
            rw [show i * 5 + (j - i * 5) = j by omega] at this
            rw [this]
            exact (List.getElem?_eq_getElem _).symm.trans hu
          · rw [if_neg j2] at hu
            have hjl := (List.getElem?_eq_some_iff.1 hu).1
            rw [World.cell?_setCells_out g _ _ _ ⟨g, j, none⟩ (fun _ _ => .inr (by dsimp only; omega)), hW1]
            have := World.cell?_setCells_in g (cs.drop (i * 5)) ((i + 1) * 5) w.drew (fun k hk => hsp1 _ (by omega)) (j - (i + 1) * 5) (by omega)
            rw [show (i + 1) * 5 + (j - (i + 1) * 5) = j by omega] at this
            rw [this]
            have h2 : (cs.drop (i * 5))[j - (i + 1) * 5]? = some u := by rw [List.getElem?_drop, show i * 5 + (j - (i + 1) * 5) = j - 5 by omega]; exact hu
            exact (List.getElem?_eq_getElem _).symm.trans h2
      rw [← hW1] at hcp1
      replace hfin := Lib.hid hfin
      replace hins := Lib.hid hins
      clear hold1 hsp1 hfz1 hvc0 hvf0 hspW hfzW h1c h1v h1d hdl hcl hinf hz0 hzs hzb hgr hvl hsa hsb hkB hcs hcap hg H hW1 hrowa hBa hcap2 hcs2
      go_enter Tryd.func43, Tryd.ntmps43
      repeat' ((fail_if_success at_builtin); (first | go_skip | go_guarded | go_step))
      go_region_law_o (refine step_copy_runI rfl _ _ 22 22 rfl _ _ (by simp [Act.eval, Act.put]) (by simp [Act.eval, Act.put]) (hcp1 _ _ _) ?_)
      repeat' ((fail_if_success at_builtin); (first | go_skip | go_guarded | go_step))
      go_ret
      exact ⟨some ⟨g, 0, none⟩, c, rfl, (hfin.out _ rfl).2.2, fun b hb => .inl hb, (hfin.out _ rfl).2.1⟩
    · have b6 : (c : Int) < (n : Int) + 1 := by omega
      have b7 : (i : Int) + 1 ≤ (c : Int) := by omega
      have hkk : IntKind.i64.wrap ((n : Int) + 1 - (i : Int)) = ((n + 1 - i : Nat) : Int) := by rw [IntWalk.i64_in _ (by omega)]; omega
      have hold2 : (Builtin.firstCells i0.size i (.slice (some ⟨g, 0, none⟩) i c)).run Tryd.prog w.drew = .ok (cs.take (i * 5)).toArray w.drew := by
        rw [hzs]
        exact run_firstCells_some w.drew 5 i ⟨g, 0, none⟩ i c (cs.take (i * 5)) (by rw [List.length_take]; omega) (fun j v hj => by
          rw [Addr.add_lit, Nat.zero_add]
          rw [List.getElem?_take] at hj
          split at hj
          · exact hold1 j v hj
          · cases hj)
      obtain ⟨G, hG⟩ : ∃ G, G = grownCap w (n + 1) c 61 := ⟨_, rfl⟩
      obtain ⟨ROW, hROW⟩ : ∃ ROW : Array Value, ROW = (cs.take (i * 5)).toArray ++ Builtin.zeroCells (.agg #[.string ⟨#[]⟩, .string ⟨#[]⟩, .string ⟨#[]⟩, .slice none 0 0, .slice none 0 0] : Value).cells (n + 1 - i) ++ Builtin.zeroCells (.agg #[.string ⟨#[]⟩, .string ⟨#[]⟩, .string ⟨#[]⟩, .slice none 0 0, .slice none 0 0] : Value).cells (G - (n + 1)) := ⟨_, rfl⟩
      have hrz : ∀ ty, (Builtin.append_ #[22, 3] ty #[.slice (some ⟨g, 0, none⟩) i c, .int .i64 ((n + 1 - i : Nat) : Int)]).run Tryd.prog w =
          .ok (.slice (some ⟨w.heap.size, 0, none⟩) (n + 1) G) (w.drew.alloc (.cells ROW 61)) := fun ty => by
        have h := Lib.run_append_grow_zeros w 22 3 ty 61 i0 _ .i64 .i64 Tryd.underlying22 Tryd.underlying3 hi0 hz0 (some ⟨g, 0, none⟩) i c (cs.take (i * 5)) hold2 (n + 1 - i) (by omega) (by omega) (by omega) (by omega) (by rw [hzb]; omega) (by rw [hzb, show i + (n + 1 - i) = n + 1 from by omega]; exact growslice_fits (by omega) (by omega))
        rw [show i + (n + 1 - i) = n + 1 from by omega] at h
        rw [hROW, hG]
        exact h
      have hzl : ∀ k, (Builtin.zeroCells (.agg #[.string ⟨#[]⟩, .string ⟨#[]⟩, .string ⟨#[]⟩, .slice none 0 0, .slice none 0 0] : Value).cells k).size = k * 5 := fun k => by simp [Builtin.zeroCells, Value.cells]
      have hGn : n + 1 ≤ G := by rw [hG]; exact grownCap_ge w _ _ _
      have hGm : G ≤ maxLen := by rw [hG]; exact grownCap_le_maxLen w (n + 1) c _ (by unfold maxLen; omega)
      have hRl : (n + 1) * 5 ≤ ROW.size := by
        rw [hROW]
        simp only [Array.size_append, hzl, List.size_toArray, List.length_take]
        omega
      have hR1 : ∀ j, j < i * 5 → ROW[j]? = cs[j]? := fun j hj => by
        rw [hROW, Array.append_assoc, Array.getElem?_append_left (by simp; omega)]
        simp [List.getElem?_take_of_lt hj]
      obtain ⟨W1, hW1⟩ : ∃ W1, W1 = w.drew.alloc (.cells ROW 61) := ⟨_, rfl⟩
      rw [← hW1] at hrz
      have hN : ∀ j, j < (n + 1) * 5 → (W1.cell? ⟨w.heap.size, j, none⟩).isSome = true := fun j hj => by
        rw [hW1, World.cell?_alloc_at (w := w.drew) ROW _ w.heap.size j rfl, Array.getElem?_eq_getElem (by omega)]; rfl
      have hN1 : ∀ j, j < i * 5 → W1.cell? ⟨w.heap.size, j, none⟩ = cs[j]? := fun j hj => by
        rw [hW1, World.cell?_alloc_at (w := w.drew) ROW _ w.heap.size j rfl]; exact hR1 j hj
      have hNf : ∀ j, W1.frozen? ⟨w.heap.size, j, none⟩ = false := fun j => by rw [hW1]; exact World.frozen?_alloc_at (w := w.drew) ROW _ w.heap.size j rfl
      have hOb : ∀ j v, w.cell? ⟨g, j, none⟩ = some v → W1.cell? ⟨g, j, none⟩ = some v := fun j v h => by rw [hW1, World.cell?_alloc_past (w := w.drew) _ g j (by show g < w.heap.size; omega)]; exact h
      have hOv : ∀ j v, w.cell? ⟨vb, j, none⟩ = some v → W1.cell? ⟨vb, j, none⟩ = some v := fun j v h => by rw [hW1, World.cell?_alloc_past (w := w.drew) _ vb j (by show vb < w.heap.size; omega)]; exact h
      have hcpA : ∀ (W : World), (∀ x, W.cell? x = W1.cell? x) → (∀ x, W.frozen? x = W1.frozen? x) → ∀ ty dc, (Builtin.copy_ #[22, 22] ty #[.slice (some ⟨w.heap.size, i * 5, none⟩) (n + 1 - i) dc, .slice (some ⟨vb, 0, none⟩) 1 1]).run Tryd.prog W = .ok (goInt (Nat.min 1 (n + 1 - i))) (W.setCells w.heap.size (i * 5) vs) := fun W hWc hWf ty dc =>
        run_copy_cellsK W _ _ ty 61 w.heap.size (i * 5) (n + 1 - i) dc ⟨vb, 0, none⟩ 1 1 5 vs Tryd.underlying22 hinf (by rw [hvl, show Nat.min 1 (n + 1 - i) = 1 from by simp only [Nat.min_def]; split <;> omega])
          (fun j v hj => by rw [Addr.add_lit, hWc, Nat.zero_add]; exact hOv _ v (hvc0 j v hj))
          (fun j hj => by rw [hWc]; exact hN _ (by omega)) (fun j _ => by rw [hWf]; exact hNf _) h1v
      have hgN : g ≠ w.heap.size := by omega
      have hcpB : ∀ (W : World), (∀ x, W.cell? x = (W1.setCells w.heap.size (i * 5) vs).cell? x) → (∀ x, W.frozen? x = (W1.setCells w.heap.size (i * 5) vs).frozen? x) → ∀ ty dc sc, (Builtin.copy_ #[22, 22] ty #[.slice (some ⟨w.heap.size, (i + 1) * 5, none⟩) (n - i) dc, .slice (some ⟨g, i * 5, none⟩) (n - i) sc]).run Tryd.prog W = .ok (goInt (Nat.min (n - i) (n - i))) (W.setCells w.heap.size ((i + 1) * 5) (cs.drop (i * 5))) := fun W hWc hWf ty dc sc =>
        run_copy_cellsK W _ _ ty 61 w.heap.size ((i + 1) * 5) (n - i) dc ⟨g, i * 5, none⟩ (n - i) sc 5 (cs.drop (i * 5)) Tryd.underlying22 hinf (by rw [hdl, show Nat.min (n - i) (n - i) = n - i from Nat.min_self _])
          (fun j v hj => by
            rw [Addr.add_lit, hWc, World.cell?_setCells_out _ _ _ _ _ (fun h _ => absurd h hgN)]
            exact hOb _ v (hold1 _ v (by rwa [List.getElem?_drop] at hj)))
          (fun j hj => by rw [hWc]; exact isSome_setCellsK _ vs _ _ (fun t ht => hN _ (by omega)) _ (hN _ (by omega)))
          (fun j _ => by rw [hWf, World.frozen?_setCells]; exact hNf _) h1d
      have hW1s : W1.heap.size = w.heap.size + 1 := by
        rw [hW1]
        exact (show (w.drew.alloc (.cells ROW 61)).heap.size = w.drew.heap.size + 1 from by simp)
      have hrow1 : W1.heap[w.heap.size]? = some (.cells ROW 61 (0, 0)) := by rw [hW1]; exact heap_alloc_new w.drew _
      have hRz : ROW.size = G * 5 := by
        rw [hROW]
        simp only [Array.size_append, hzl, List.size_toArray, List.length_take]
        omega
      have hW1b : Below w.heap.size w W1 := by rw [hW1]; exact ((Below.refl _ _).drew).alloc (Nat.le_refl _) _
      have hown : ∀ W, W = ((W1.setCells w.heap.size (i * 5) vs).drew.setCells w.heap.size ((i + 1) * 5) (cs.drop (i * 5))) → SeqP W (fun b => w0.heap.size ≤ b ∧ b < W.heap.size) 5 (some ⟨w.heap.size, 0, none⟩) (n + 1) (cs.take (i * 5) ++ vs ++ cs.drop (i * 5)) → Own w0 W 61 5 (.slice (some ⟨w.heap.size, 0, none⟩) (n + 1) G) (n + 1) (cs.take (i * 5) ++ vs ++ cs.drop (i * 5)) := by
        rintro W rfl hq
        obtain ⟨cur1, a1, a2⟩ := heap_setCells_rowK (g := w.heap.size) vs (i * 5) W1 ROW hrow1
        obtain ⟨cur2, a3, a4⟩ := heap_setCells_rowK (g := w.heap.size) (cs.drop (i * 5)) ((i + 1) * 5) (W1.setCells w.heap.size (i * 5) vs).drew cur1 a1
        refine ⟨ownsRow_of_cellsK (by omega) a3 hGn hGm (by omega) hq.1 (fun j u hu => ?_), hBa.trans ((setCells_below (Nat.le_refl _) _ _ _ ((setCells_below (Nat.le_refl _) _ _ _ hW1b).drew)).mono hBa.size)⟩
        obtain ⟨b, o, e, _, hc⟩ := hq.2 (by omega)
        injection e with e
        injection e with e1 e2
        subst e1 e2
        have := hc j u hu
        rwa [Nat.zero_add] at this
      replace hown := Lib.hid hown
      have hfin : ∀ W, (∀ x, W.cell? x = ((W1.setCells w.heap.size (i * 5) vs).setCells w.heap.size ((i + 1) * 5) (cs.drop (i * 5))).cell? x) → W.heap.size = w.heap.size + 1 → SeqP W (fun b => w0.heap.size ≤ b ∧ b < W.heap.size) 5 (some ⟨w.heap.size, 0, none⟩) (n + 1) (cs.take (i * 5) ++ vs ++ cs.drop (i * 5)) := by
        intro W hWc hWs
        refine ⟨by simp only [List.length_append, List.length_take, List.length_drop]; omega, fun _ => ⟨w.heap.size, 0, rfl, ⟨by omega, by omega⟩, fun j u hu => ?_⟩⟩
        rw [Nat.zero_add, hWc]
        rw [hins] at hu
        by_cases j1 : j < i * 5
        · rw [if_pos j1] at hu
          rw [World.cell?_setCells_out _ _ _ _ ⟨w.heap.size, j, none⟩ (fun _ _ => .inl (by dsimp only; omega)), World.cell?_setCells_out _ _ _ _ ⟨w.heap.size, j, none⟩ (fun _ _ => .inl j1)]
          exact (hN1 j j1).trans hu
        · rw [if_neg j1] at hu
          by_cases j2 : j < i * 5 + 5
          · rw [if_pos j2] at hu
            rw [World.cell?_setCells_out _ _ _ _ ⟨w.heap.size, j, none⟩ (fun _ _ => .inl (by dsimp only; omega))]
            have := World.cell?_setCells_in w.heap.size vs (i * 5) W1 (fun k hk => hN _ (by omega)) (j - i * 5) (by omega)
            rw [show i * 5 + (j - i * 5) = j by omega] at this
            rw [this]
            exact (List.getElem?_eq_getElem _).symm.trans hu
          · rw [if_neg j2] at hu
            have hjl := (List.getElem?_eq_some_iff.1 hu).1
            have := World.cell?_setCells_in w.heap.size (cs.drop (i * 5)) ((i + 1) * 5) (W1.setCells w.heap.size (i * 5) vs) (fun k hk => isSome_setCellsK _ vs _ _ (fun t ht => hN _ (by omega)) _ (hN _ (by omega))) (j - (i + 1) * 5) (by omega)
            rw [show (i + 1) * 5 + (j - (i + 1) * 5) = j by omega] at this
            rw [this]
            have h2 : (cs.drop (i * 5))[j - (i + 1) * 5]? = some u := by rw [List.getElem?_drop, show i * 5 + (j - (i + 1) * 5) = j - 5 by omega]; exact hu
            exact (List.getElem?_eq_getElem _).symm.trans h2
      have hG63 : G ≤ 9223372036854775807 := by unfold maxLen at hGm; omega
      have hGi : ¬ (G = i) := by omega
      have hGim : ¬ (G = i + 1) := by omega
      have hci : ¬ (c = i) := by omega
      have g1 : (i : Int) ≤ (G : Int) := by omega
      have g2 : (i : Int) + 1 ≤ (G : Int) := by omega
      have g3 : (n : Int) + 1 ≤ (G : Int) := by omega
      replace hfin := Lib.hid hfin
      replace hins := Lib.hid hins
      replace hW1b := Lib.hid hW1b
      replace hW1s := Lib.hid hW1s
      clear hold1 hsp1 hfz1 hvc0 hvf0 h1c h1v h1d hdl hcl hinf hz0 hzs hzb hgr hvl hsa hsb hkB hcs hcap hg H hold2 hROW hG hRl hR1 hN hN1 hNf hOb hOv hzl hrow1 hRz hrowa hBa
      replace hsz := Lib.hid hsz
      clear hW1
      go_enter Tryd.func43, Tryd.ntmps43
      repeat' ((fail_if_success at_builtin); (first | go_skip | go_guarded | go_step))
      refine Lib.wpList_append_run _ rfl _ _ _ _ rfl _ _ rfl rfl _ _ (hrz _) ?_
      repeat' ((fail_if_success at_builtin); (first | go_skip | go_guarded | go_step))
      go_region_law_o (refine step_copy_runI rfl _ _ 22 22 rfl (.slice (some ⟨w.heap.size, (i + 1) * 5, none⟩) (n - i) (G - (i + 1))) (.slice (some ⟨g, i * 5, none⟩) (n - i) (c - i)) (by simp [Act.eval, Act.put]) (by simp [Act.eval, Act.put]) (hcpB ((W1.setCells w.heap.size (i * 5) vs).drew) (fun _ => rfl) (fun _ => rfl) 3 (G - (i + 1)) (c - i)) ?_)
      repeat' ((fail_if_success at_builtin); (first | go_skip | go_guarded | go_step))
      go_ret
      refine ⟨some ⟨w.heap.size, 0, none⟩, G, rfl, hown.out _ rfl (hfin.out _ (fun x => by rw [← drew_setCellsK]; rfl) ?_), fun b hb => .inr (by have hb2 : some w.heap.size = some b := hb; injection hb2 with hb2; have := hsz.out; omega), growBelow (setCells_below (Nat.le_refl _) _ _ _ ((setCells_below (Nat.le_refl _) _ _ _ hW1b.out).drew))⟩
      rw [setCells_size2]
      show (W1.setCells w.heap.size (i * 5) vs).heap.size = _
      rw [setCells_size2]
      exact hW1s.out
end Go.Proofs.YtennhjkhjplmoaaDoor
namespace Go.Proofs.YtennhjkhjplmoaaDoor
open Go.RowKit
theorem vsC_put : ∀ {L : List EnvV} {k : Nat} {e : EnvV} (e' : EnvV) (j : Nat) (y : Value), L[k]? = some e → j < 5 → vC e' = (vC e).set j y → (vsC L).set (k * 5 + j) y = vsC (L.set k e')
  | [], _, _, _, _, _, h, _, _ => by simp at h
  | z :: L, 0, e, e', j, y, h, hj, hv => by
    simp only [List.getElem?_cons_zero, Option.some.injEq] at h
    subst h
    show (vC z ++ vsC L).set _ _ = vC e' ++ vsC L
    rw [hv, Nat.zero_mul, Nat.zero_add, set_app _ _ _ _ (by show j < 5; exact hj)]
  | z :: L, k + 1, e, e', j, y, h, hj, hv => by
    have ih := vsC_put (L := L) (k := k) e' j y (by simpa using h) hj hv
    show (vC z ++ vsC L).set _ _ = vC z ++ vsC (L.set k e')
    rw [← ih, ← set_app2]
    congr 1
    show _ = 5 + _
    omega
/-- a value's block is the old one's or a new one -/
def NewB (w : World) (a a' : Value) : Prop := ∀ b, a'.ownBlock = some b → a.ownBlock = some b ∨ w.heap.size ≤ b
theorem NewB.refl (w : World) (a : Value) : NewB w a a := fun _ h => .inl h
section
variable {w0 w w' : World} {g n c k : Nat} {L : List EnvV} {e e' : EnvV} {row : Option Nat}
theorem EP.rowO (h : EO w0 w g n c L) : Own w0 w envT 5 (.slice (some ⟨g, 0, none⟩) n c) n (vsC L) := by
  have := h.row
  rw [List.append_nil] at this
  exact this
/-- what an operation on the rows of environment k leaves of the table -/
theorem EP.rowG (h : EO w0 w g n c L) (hk : L[k]? = some e) (hg : w.grownBy w' row) (hrow : row = none ∨ row = e.u.ownBlock ∨ row = e.v.ownBlock) : Own w0 w' envT 5 (.slice (some ⟨g, 0, none⟩) n c) n (vsC L) := by
  have hm := List.mem_of_getElem? hk
  refine h.rowO.grown hg (fun b hb hr => ?_) (fun b hb => ?_)
  · injection hb with hb
    subst hb
    rcases hrow with h1 | h1 | h1
    · rw [h1] at hr; cases hr
    · exact (h.d0 e hm).1 (by rw [← h1, hr])
    · exact (h.d0 e hm).2 (by rw [← h1, hr])
  · rcases hrow with h1 | h1 | h1
    · rw [h1] at hb; cases hb
    · exact ((h.sub e hm).wt.1.lt b (by rw [← h1, hb])).1
    · exact ((h.sub e hm).ht.1.lt b (by rw [← h1, hb])).1
theorem EP.put (h : EO w0 w g n c L) (hk : L[k]? = some e) (hg : w.grownBy w' row) (hrow : row = none ∨ row = e.u.ownBlock ∨ row = e.v.ownBlock) (hs : Sub w0 w' e') (hu : NewB w e.u e'.u) (hv : NewB w e.v e'.v) (j : Nat) (y : Value) (hj : j < 5) (hc : vC e' = (vC e).set j y) (w1 : World) (hw1 : w1 = w'.setCell ⟨g, k * 5 + j, none⟩ y) : EO w0 w1 g n c (L.set k e') := by
  subst hw1
  have hm := List.mem_of_getElem? hk
  have hkl := (List.getElem?_eq_some_iff.1 hk).1
  have hR := (h.rowG hk hg hrow).store h.lo (k * 5 + j) y
  rw [vsC_put e' j y hk hj hc] at hR
  have hgl := h.lt
  have hlo : ∀ k, some g = some k → w0.heap.size ≤ k := fun k hk => by injection hk with hk; rw [← hk]; exact h.lo
  have hug : e'.u.ownBlock ≠ some g := fun he => by
    rcases hu g he with h1 | h1
    · exact (h.d0 e hm).1 h1
    · omega
  have hvg : e'.v.ownBlock ≠ some g := fun he => by
    rcases hv g he with h1 | h1
    · exact (h.d0 e hm).2 h1
    · omega
  have st : ∀ (f : EnvV), Sub w0 w' f → f.u.ownBlock ≠ some g → f.v.ownBlock ≠ some g → Sub w0 (w'.setCell ⟨g, k * 5 + j, none⟩ y) f := fun f hs h1 h2 =>
    hs.grown (setCell_grown w' g _ y) (fun b hb hb2 => h1 (by injection hb2 with hb2; rw [hb, hb2])) (fun b hb hb2 => h2 (by injection hb2 with hb2; rw [hb, hb2])) hlo
  have hrl : ∀ b, row = some b → w0.heap.size ≤ b := fun b hb => by
    rcases hrow with h1 | h1 | h1
    · rw [h1] at hb; cases hb
    · exact ((h.sub e hm).wt.1.lt b (by rw [← h1, hb])).1
    · exact ((h.sub e hm).ht.1.lt b (by rw [← h1, hb])).1
  -- the others
  have oth : ∀ i f, i ≠ k → L[i]? = some f → Sub w0 w' f := fun i f hik hf => by
    have hd := h.d1 i k f e hik hf hk
    refine (h.sub f (List.mem_of_getElem? hf)).grown hg (fun b hb hr => ?_) (fun b hb hr => ?_) hrl
    · rcases hrow with h1 | h1 | h1
      · rw [h1] at hr; cases hr
      · exact hd.1 b hb (by rw [← h1, hr])
      · exact hd.2.1 b hb (by rw [← h1, hr])
    · rcases hrow with h1 | h1 | h1
      · rw [h1] at hr; cases hr
      · exact hd.2.2.1 b hb (by rw [← h1, hr])
      · exact hd.2.2.2 b hb (by rw [← h1, hr])
  have one : ∀ (i : Nat) (f : EnvV), (L.set k e')[i]? = some f → (i = k ∧ f = e') ∨ (i ≠ k ∧ L[i]? = some f) := by
    intro i f hf
    by_cases hik : i = k
    · subst hik
      rw [List.getElem?_set_self hkl] at hf
      injection hf with hf
      exact .inl ⟨rfl, hf.symm⟩
    · rw [List.getElem?_set_ne (fun e => hik e.symm)] at hf
      exact .inr ⟨hik, hf⟩
  have dn : ∀ {f : EnvV} {a a' : Value}, f ∈ L → NewB w a a' → (Diff f.u a → Diff f.u a') ∧ (Diff f.v a → Diff f.v a') := fun {f a a'} hf hn => by
    have hl := h.ltU hf
    refine ⟨fun hd b h1 h2 => ?_, fun hd b h1 h2 => ?_⟩
    · rcases hn b h2 with h3 | h3
      · exact hd b h1 h3
      · have := hl.1 b h1; omega
    · rcases hn b h2 with h3 | h3
      · exact hd b h1 h3
      · have := hl.2 b h1; omega
  refine ⟨by rw [List.append_nil]; exact hR, by rw [List.length_set]; exact h.ln, h.lo, fun f hf => ?_, fun f hf => ?_, fun p q f1 f2 hpq h1 h2 => ?_⟩
  · obtain ⟨i, hi⟩ := List.getElem?_of_mem hf
    rcases one i f hi with ⟨_, rfl⟩ | ⟨hik, hL⟩
    · exact st f hs hug hvg
    · exact st f (oth i f hik hL) (h.d0 f (List.mem_of_getElem? hL)).1 (h.d0 f (List.mem_of_getElem? hL)).2
  · obtain ⟨i, hi⟩ := List.getElem?_of_mem hf
    rcases one i f hi with ⟨_, rfl⟩ | ⟨hik, hL⟩
    · exact ⟨hug, hvg⟩
    · exact h.d0 f (List.mem_of_getElem? hL)
  · rcases one p f1 h1 with ⟨hp, rfl⟩ | ⟨hp, a1⟩ <;> rcases one q f2 h2 with ⟨hq, rfl⟩ | ⟨hq, a2⟩
    · omega
    · have hd := h.d1 q k f2 e hq a2 hk
      have hf := List.mem_of_getElem? a2
      exact ⟨((dn hf hu).1 hd.1).symm, ((dn hf hu).2 hd.2.2.1).symm, ((dn hf hv).1 hd.2.1).symm, ((dn hf hv).2 hd.2.2.2).symm⟩
    · have hd := h.d1 p k f1 e hp a1 hk
      have hf := List.mem_of_getElem? a1
      exact ⟨(dn hf hu).1 hd.1, (dn hf hv).1 hd.2.1, (dn hf hu).2 hd.2.2.1, (dn hf hv).2 hd.2.2.2⟩
    · exact h.d1 p q f1 f2 hpq a1 a2
theorem EP.envs (h : EO w0 w g n c L) {l : List Env} (hl : L.map (·.x) = l) (hn : l.length ≤ 1000000) (hW : ∀ x ∈ l, EnvW x) : Envs w (some ⟨g, 0, none⟩) n c l := by
  subst hl
  exact ⟨h.read, hn, hW⟩
end
end Go.Proofs.YtennhjkhjplmoaaDoor
