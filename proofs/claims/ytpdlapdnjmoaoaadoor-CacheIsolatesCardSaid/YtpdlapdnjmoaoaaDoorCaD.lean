/- Cache: slices.Delete of one entry. -/
import Derived.Test.YtpdlapdnjmoaoaaDoorCaC
import Derived.Deep.RegionLaw
import Derived.Deep.Upon
import Derived.Lib.BufferOwn
import Derived.Laws.OwnMore
namespace Go.Proofs.YtpdlapdnjmoaoaaDoor
open Go.RowKit
section
variable {P : Program}
theorem run_clear_one (w : World) (t e ty : TypeId) (z : Value) (zc : List Value) (ht : P.underlying t = some (.slice e)) (hv : ∀ w, (zeroValue e).run P w = .ok z w) (hz : (Builtin.zeroCells z.cells 1).toList = zc) (h1 : ∀ v ∈ zc, v.oneCell' = true) (b o c : Nat)
    (hc : ∀ j, j < zc.length → (w.cell? ⟨b, o + j, none⟩).isSome = true) (hf : ∀ j, j < zc.length → w.frozen? ⟨b, o + j, none⟩ = false) :
    (Builtin.clear_ #[t] ty #[.slice (some ⟨b, o, none⟩) 1 c]).run P w = .ok (.tuple #[]) (w.setCells b o zc) := by
  have hst := run_storeCells_cells (P := P) b o zc 0 w (by simpa using hc) (by simpa using hf) h1
  simp only [Nat.add_zero] at hst
  simp [Builtin.clear_, run_underlying ht, hv, hz, hst]
end
theorem heap_setCells_row {g : Nat} {e : TypeId} : ∀ (vs : List Value) (o : Nat) (w : World) (cur : Array Value), w.heap[g]? = some (.cells cur e (0, 0)) → ∃ cur', (w.setCells g o vs).heap[g]? = some (.cells cur' e (0, 0)) ∧ cur'.size = cur.size
  | [], _, _, cur, h => ⟨cur, h, rfl⟩
  | v :: r, o, w, cur, h => by
    obtain ⟨cur', h1, h2⟩ := heap_setCells_row r (o + 1) (w.setCell ⟨g, o, none⟩ v) (cur.setIfInBounds o v) (heap_setCell_same w g o cur e v h)
    exact ⟨cur', h1, by rw [h2]; simp⟩
theorem grow_setCells {a : World} {g : Nat} : ∀ (vs : List Value) (o : Nat) (w : World), a.grownBy w (some g) → a.grownBy (w.setCells g o vs) (some g)
  | [], _, _, h => h
  | v :: r, o, _, h => grow_setCells r (o + 1) _ (Lib.grownBy_setB h o v)
theorem ownsRow_of_cells {w : World} {base g cap n sz : Nat} {e : TypeId} {cur : Array Value} {ys : List Value} (hb : base ≤ g) (hh : w.heap[g]? = some (.cells cur e (0, 0))) (hn : n ≤ cap) (hc : cap ≤ maxLen) (hs : cur.size = cap * sz) (hl : ys.length = n * sz)
    (hy : ∀ j u, ys[j]? = some u → w.cell? ⟨g, j, none⟩ = some u) : w.ownsRow base e sz (.slice (some ⟨g, 0, none⟩) n cap) n ys := by
  refine ⟨hl, .inr ⟨g, cap, cur, rfl, hb, hh, hn, hc, hs, ?_⟩⟩
  have hle : n * sz ≤ cap * sz := Nat.mul_le_mul_right _ hn
  apply List.ext_getElem?
  intro j
  by_cases hj : j < n * sz
  · have hjy : ys[j]? = some ys[j] := List.getElem?_eq_getElem (by omega)
    have h1 := hy j _ hjy
    rw [cell_of_row w g j cur e (0, 0) hh] at h1
    rw [List.getElem?_take_of_lt hj, hjy, ← h1]
    simp
  · rw [List.getElem?_eq_none (by simp; omega), List.getElem?_eq_none (by omega)]
theorem entsC_app (l m : List Ent) : entsC (l ++ m) = entsC l ++ entsC m := by simp [entsC]
theorem entsC_take (l : List Ent) (i j : Nat) (hj : j < i * 8) (hi : i ≤ l.length) : (entsC (l.take i))[j]? = (entsC l)[j]? := by
  have h : entsC l = entsC (l.take i) ++ entsC (l.drop i) := by rw [← entsC_app, List.take_append_drop]
  rw [h, List.getElem?_append_left (by rw [entsC_len, List.length_take]; omega)]
theorem entsC_drop (l : List Ent) (i j : Nat) (hi : i ≤ l.length) : (entsC (l.drop i))[j]? = (entsC l)[i * 8 + j]? := by
  have h : entsC l = entsC (l.take i) ++ entsC (l.drop i) := by rw [← entsC_app, List.take_append_drop]
  rw [h, List.getElem?_append_right (by rw [entsC_len, List.length_take]; omega), entsC_len, List.length_take, Nat.min_eq_left hi]
  congr 1
  omega
abbrev zero8 : List Value := [.string ⟨#[]⟩, .int .i64 0, .string ⟨#[]⟩, .string ⟨#[]⟩, .int .u64 0, .int .i64 0, .int .i64 0, .int .i64 0]
set_option maxRecDepth 100000 in
set_option maxHeartbeats 4000000 in
theorem delE_any (l : List Ent) (g cap n i : Nat) (W0 w : World) (hn : n = l.length) (H : OwnL W0 w (.slice (some ⟨g, 0, none⟩) n cap) l) (hi : i < n) (hl : n ≤ 1000000) :
    Calls Tryd.prog 68 #[.slice (some ⟨g, 0, none⟩) n cap, .int .i64 (i : Int), .int .i64 ((i : Int) + 1)] w fun e w' => e = .returned (.slice (some ⟨g, 0, none⟩) (n - 1) cap) ∧ OwnL W0 w' (.slice (some ⟨g, 0, none⟩) (n - 1) cap) (l.eraseIdx i) ∧ w.grownBy w' (some g) := by
  subst hn
  have hH := H.1.2
  rcases hH with ⟨hv, h0⟩ | ⟨g', cap', cur, hv, hbg, hh, hnc, hcm, hcs, _⟩
  · cases hv
  simp only [Value.slice.injEq, Option.some.injEq, Addr.mk.injEq, and_true, true_and] at hv
  obtain ⟨rfl, rfl⟩ := hv
  have hcell : ∀ j u, (entsC l)[j]? = some u → w.cell? ⟨g, j, none⟩ = some u := fun j u hu => by
    have := H.1.cells (g := g) rfl j u hu
    rw [Addr.add_lit, Nat.zero_add] at this
    exact this
  have hfr : ∀ j, w.frozen? ⟨g, j, none⟩ = false := fun j => H.1.frozenAt j
  have hroomc : ∀ j, j < cap * 8 → (w.cell? ⟨g, j, none⟩).isSome = true := fun j hj => by
    rw [cell_of_row w g j cur _ (0, 0) hh]
    rw [Array.getElem?_eq_getElem (by omega)]
    rfl
  obtain ⟨i0, hi0, hz0, hz1, hz2⟩ := info_parts ent_info
  obtain ⟨news, hnews⟩ : ∃ news, news = entsC (l.drop (i + 1)) := ⟨_, rfl⟩
  have hlen : news.length = (l.length - (i + 1)) * 8 := by rw [hnews, entsC_len, List.length_drop]
  obtain ⟨A, hA, hsrc⟩ : ∃ A : Addr, (if cap = i + 1 then (some ⟨g, 0, none⟩ : Option Addr) else some ⟨g, (i + 1) * 8, none⟩) = some A ∧ Hid (∀ t u, news[t]? = some u → w.drew.cell? (A.add t) = some u) := by
    by_cases h : cap = i + 1
    · refine ⟨⟨g, 0, none⟩, by rw [if_pos h], fun t u hu => ?_⟩
      have h0 : news.length = 0 := by rw [hlen, show l.length - (i + 1) = 0 from by omega, Nat.zero_mul]
      rw [List.length_eq_zero_iff.1 h0] at hu
      simp at hu
    · refine ⟨⟨g, (i + 1) * 8, none⟩, by rw [if_neg h], fun t u hu => ?_⟩
      rw [hnews, entsC_drop l (i + 1) t (by omega)] at hu
      rw [Addr.add_lit]
      exact hcell _ _ hu
  have s1 : Hid (news.length = (l.length - (i + 1)) * 8) := hlen
  have s2 : Hid (∀ u ∈ news, u.oneCell' = true) := by rw [hnews]; exact ents_one _
  have s3 : Hid (∀ t, t < news.length → (w.drew.cell? ⟨g, 0 + i * 8 + t, none⟩).isSome = true ∧ w.drew.frozen? ⟨g, 0 + i * 8 + t, none⟩ = false) := by
    intro t ht
    rw [hlen] at ht
    rw [Nat.zero_add]
    exact ⟨hroomc _ (by omega), hfr _⟩
  obtain ⟨W1, hW1⟩ : ∃ W1, W1 = w.drew.setCells g (0 + i * 8) news := ⟨_, rfl⟩
  have hf1 : ∀ j, W1.frozen? ⟨g, j, none⟩ = false := fun j => by rw [hW1, World.frozen?_setCells]; exact hfr j
  obtain ⟨cur1, hh1, hcs1⟩ := heap_setCells_row (g := g) news (0 + i * 8) w.drew cur hh
  rw [← hW1] at hh1
  have hroom1 : ∀ j, j < cap * 8 → (W1.cell? ⟨g, j, none⟩).isSome = true := fun j hj => by
    rw [cell_of_row W1 g j cur1 _ (0, 0) hh1, Array.getElem?_eq_getElem (by omega)]
    rfl
  have hcl : ∀ ty, (Builtin.clear_ #[22] ty #[.slice (some ⟨g, (l.length - 1) * 8, none⟩) 1 (cap - (l.length - 1))]).run Tryd.prog W1 = .ok (.tuple #[]) (W1.setCells g ((l.length - 1) * 8) zero8) := fun ty =>
    run_clear_one W1 _ _ ty (.agg #[.string ⟨#[]⟩, .int .i64 0, .string ⟨#[]⟩, .string ⟨#[]⟩, .int .u64 0, .int .i64 0, .int .i64 0, .int .i64 0]) zero8 Tryd.underlying22 (fun w => by kernel_rfl) (by kernel_rfl) (by decide) g ((l.length - 1) * 8) _ (fun j hj => hroom1 _ (by simp at hj; omega)) (fun j _ => hf1 _)
  -- the world at the end
  obtain ⟨W2, hW2⟩ : ∃ W2, W2 = W1.setCells g ((l.length - 1) * 8) zero8 := ⟨_, rfl⟩
  rw [← hW2] at hcl
  have hg2 : w.grownBy W2 (some g) := by
    rw [hW2, hW1]
    exact grow_setCells _ _ _ (grow_setCells _ _ _ ⟨rfl, rfl, rfl, Nat.le_refl _, fun _ _ _ => rfl⟩)
  obtain ⟨cur2, hh2, hcs2⟩ := heap_setCells_row (g := g) zero8 ((l.length - 1) * 8) W1 cur1 hh1
  rw [← hW2] at hh2
  have hE : (l.eraseIdx i).length = l.length - 1 := by rw [List.length_eraseIdx_of_lt (by omega)]
  have hO : OwnL W0 W2 (.slice (some ⟨g, 0, none⟩) (l.length - 1) cap) (l.eraseIdx i) := by
    refine ⟨?_, H.2.grown hg2 H.2.size (fun k hk => by injection hk with hk; omega)⟩
    rw [hE]
    refine ownsRow_of_cells hbg hh2 (by omega) hcm (by omega) (by rw [entsC_len, hE]) (fun j u hu => ?_)
    have hj : j < (l.length - 1) * 8 := by
      have := (List.getElem?_eq_some_iff.1 hu).1
      rw [entsC_len, hE] at this
      exact this
    rw [hW2, World.cell?_setCells_out g zero8 _ _ _ (fun _ _ => .inl hj)]
    rw [List.eraseIdx_eq_take_drop_succ, entsC_app] at hu
    by_cases hji : j < i * 8
    · rw [List.getElem?_append_left (by rw [entsC_len, List.length_take]; omega), entsC_take l i j hji (by omega)] at hu
      rw [hW1, World.cell?_setCells_out g news _ _ _ (fun _ _ => .inl (by rw [Nat.zero_add]; exact hji))]
      exact hcell _ _ hu
    · rw [List.getElem?_append_right (by rw [entsC_len, List.length_take]; omega), entsC_len, List.length_take, Nat.min_eq_left (by omega), ← hnews] at hu
      have hjn := (List.getElem?_eq_some_iff.1 hu).1
      have := World.cell?_setCells_in g news (0 + i * 8) w.drew (fun t ht => (s3.out t ht).1) (j - i * 8) hjn
      rw [show 0 + i * 8 + (j - i * 8) = j from by omega] at this
      rw [hW1, this]
      have h2 := List.getElem?_eq_getElem hjn
      rw [h2] at hu
      exact hu
  have hW : Hid (W1 = w.drew.setCells g (0 + i * 8) news) := hW1
  replace hO := Lib.hid hO
  have hic : (i : Int) ≤ (cap : Int) := by omega
  have j0 : (0 : Int) ≤ (i : Int) := by omega
  have j1 : (i : Int) ≤ (i : Int) + 1 := by omega
  have j2 : (i : Int) + 1 ≤ (l.length : Int) := by omega
  have j3 : (l.length : Int) ≤ (cap : Int) := by omega
  have j4 : ((i : Int) == (i : Int) + 1) = false := by simp; omega
  have j5 : (i : Int) + 1 ≤ (cap : Int) := by omega
  have j6 : (0 : Int) ≤ (i : Int) + 1 := by omega
  have mixed : Tryd.prog.follows .mixedOrders = true := by kernel_rfl
  clear hW1 hh1 hcs1 hroom1 hf1 hcell hnews hlen hW2 hh2 hcs2 hE hroomc hfr hh hcs H
  go_enter Tryd.func68, Tryd.ntmps68
  repeat' ((fail_if_success at_builtin); (first | go_skip | go_guarded | go_step))
  go_region_law_o (refine step_append_room rfl (.tmp 22) (.tmp 25) 22 rfl 42 i0 8 Tryd.underlying22 hi0 hz1 g 0 i cap (by simp [Act.eval, Act.put]) A (l.length - (i + 1)) (cap - (i + 1)) news (by simp [Act.eval, Act.put]) s1.out hsrc.out s2.out (by omega) s3.out ?_; rw [← hW.out])
  repeat' ((fail_if_success at_builtin); (first | go_skip | go_guarded | go_step))
  rw [show i + (l.length - (i + 1)) = l.length - 1 from by omega, show l.length - (l.length - 1) = 1 from by omega, hcl]
  simp only [Result.andThen, Oper.upon]
  repeat' ((fail_if_success at_builtin); (first | go_skip | go_guarded | go_step))
  go_ret
  exact ⟨rfl, hO.out, hg2⟩
end Go.Proofs.YtpdlapdnjmoaoaaDoor
