/- Secret: slices.Insert. -/
import Derived.Test.YtgloblokkejgmaaDoorSeA
import Derived.Lib.AppendZerosOnto
import Derived.Lib.Overlaps
import Derived.Laws.IdiomCopy
import Derived.Shelf.Spec.SlicesInsert
import Derived.Deep.RegionLaw
namespace Go.Proofs.YtgloblokkejgmaaDoor
open Go.RowKit
/-- 'copy' of elements of K cells -/
theorem run_copy_cellsK {P : Program} (w : World) (dT sT ty elem : TypeId) (b o dLen dCap : Nat) (a : Addr) (sLen sCap K : Nat) (cs : List Value)
    (hu : P.underlying dT = some (.slice elem)) (hs : (P.info? elem).map (·.size) = some K) (hn : cs.length = Nat.min sLen dLen * K)
    (hsrc : ∀ j v, cs[j]? = some v → w.cell? (a.add j) = some v) (hc : ∀ j, j < cs.length → (w.cell? ⟨b, o + j, none⟩).isSome = true) (hf : ∀ j, j < cs.length → w.frozen? ⟨b, o + j, none⟩ = false) (h1 : ∀ v ∈ cs, v.oneCell' = true) :
    (Builtin.copy_ #[dT, sT] ty #[.slice (some ⟨b, o, none⟩) dLen dCap, .slice (some a) sLen sCap]).run P w = .ok (goInt (Nat.min sLen dLen)) (w.setCells b o cs) := by
  have hl := run_loadCells_list (P := P) w a cs hsrc
  have hst := run_storeCells_cells (P := P) b o cs 0 w (by simpa using hc) (by simpa using hf) h1
  cases hq : P.info? elem with
  | none => simp [hq] at hs
  | some i =>
    have hi : i.size = K := by simpa [hq] using hs
    simp only [Nat.add_zero] at hst
    simp [Builtin.copy_, run_underlying hu, Builtin.lenOf, Builtin.firstCells, sizeOf, typeInfo, hq, hi, ← hn, hl, hst]
theorem drew_setCellsK (b : Nat) : ∀ (vs : List Value) (o : Nat) (w : World), (w.setCells b o vs).drew = w.drew.setCells b o vs
  | [], _, _ => rfl
  | v :: r, o, w => by rw [World.setCells, World.setCells, drew_setCellsK b r]; rfl
theorem isSome_setCellsK (b : Nat) (vs : List Value) (o : Nat) (w : World) (h : ∀ j, j < vs.length → (w.cell? ⟨b, o + j, none⟩).isSome = true) (k : Nat) (hk : (w.cell? ⟨b, k, none⟩).isSome = true) : ((w.setCells b o vs).cell? ⟨b, k, none⟩).isSome = true := by
  by_cases hin : o ≤ k ∧ k < o + vs.length
  · have := World.cell?_setCells_in b vs o w h (k - o) (by omega)
    rw [show o + (k - o) = k by omega] at this
    rw [this]; rfl
  · rw [World.cell?_setCells_out b vs o w ⟨b, k, none⟩ (fun _ _ => by show k < o ∨ o + vs.length ≤ k; omega)]
    exact hk
theorem grow_setCellsK {a : World} {g : Nat} : ∀ (vs : List Value) (o : Nat) (w : World), a.grownBy w (some g) → a.grownBy (w.setCells g o vs) (some g)
  | [], _, _, h => h
  | v :: r, o, _, h => grow_setCellsK r (o + 1) _ (Lib.grownBy_setB h o v)
theorem ins_getK {cs vs : List Value} {p k : Nat} (hp : p ≤ cs.length) (hv : vs.length = k) (j : Nat) : (cs.take p ++ vs ++ cs.drop p)[j]? = if j < p then cs[j]? else if j < p + k then vs[j - p]? else cs[j - k]? := by
  have h1 : (cs.take p).length = p := by rw [List.length_take]; omega
  by_cases a1 : j < p
  · rw [if_pos a1, List.append_assoc, List.getElem?_append_left (by omega), List.getElem?_take_of_lt a1]
  · rw [if_neg a1]
    by_cases a2 : j < p + k
    · rw [if_pos a2, List.getElem?_append_left (by rw [List.length_append]; omega), List.getElem?_append_right (by omega), h1]
    · rw [if_neg a2, List.getElem?_append_right (by rw [List.length_append]; omega), List.length_append, h1, List.getElem?_drop]
      congr 1
      omega
set_option maxRecDepth 100000 in
set_option maxHeartbeats 6000000 in
theorem insC_any (cs vs : List Value) (n c i : Nat) (A : Option Addr) (w0 wb : World) (H : Own w0 wb 24 5 (.slice A n c) n cs) (hi : i ≤ n) (hl : n ≤ 1000000) (hvl : vs.length = 5) (h1c : ∀ v ∈ cs, v.oneCell' = true) (h1v : ∀ v ∈ vs, v.oneCell' = true) :
    Calls Tryd.prog 38 #[.slice A n c, .int .i64 (i : Int), .slice (some ⟨wb.heap.size, 0, none⟩) 1 1] (wb.alloc (.cells vs.toArray 24)) fun e w' => ∃ A' c', e = .returned (.slice A' (n + 1) c') ∧ SeqP w' (fun b => w0.heap.size ≤ b ∧ b < w'.heap.size) 5 A' (n + 1) (cs.take (i * 5) ++ vs ++ cs.drop (i * 5)) ∧ n + 1 ≤ c' ∧ (wb.alloc (.cells vs.toArray 24)).grownBy w' (Value.ownBlock (.slice A n c)) := by
  have hcl : cs.length = n * 5 := H.1.1
  have hB := H.2.size
  by_cases hin : i = n
  · subst hin
    have hby : (i + 1) * 88 ≤ 140737488355328 := by omega
    have e1 : (i : Int) ≤ (c : Int) := by have := H.cap_le; omega
    rw [List.take_of_length_le (by omega), List.drop_of_length_le (by omega), List.append_nil]
    replace hcl := Lib.hid hcl
    go_enter Tryd.func38, Tryd.ntmps38
    repeat' ((fail_if_success at_builtin); (first | go_skip | go_guarded | go_step))
    refine wp_appL (m := 1) H Tryd.underlying27 sec_info hby ?_ (hcs := by simp [hvl]) (h1 := by simpa [List.all_eq_true] using h1v)
    intro v w' ho hg
    obtain ⟨A', c', rfl⟩ := ho.slice_form
    replace ho := Lib.hid ho
    replace hg := Lib.hid hg
    repeat' ((fail_if_success at_builtin); (first | go_skip | go_guarded | go_step))
    go_ret
    exact ⟨A', c', rfl, seq_lohi ho.out.1, ho.out.cap_le, hg.out.by_⟩
  · have hlt : i < n := by omega
    rcases H.1.2 with ⟨hv', h0⟩ | ⟨g, cap, cur, hv', hb, hg, hnc, hcap, hcs, ht⟩
    · omega
    injection hv' with hA _ hc
    subst hA hc
    have hgw : g < wb.heap.size := (Array.getElem?_eq_some_iff.1 hg).1
    have hba := (Below.refl wb.heap.size wb).alloc (Nat.le_refl _) (.cells vs.toArray 24)
    have hold : ∀ j v, cs[j]? = some v → wb.cell? ⟨g, j, none⟩ = some v := fun j v h => by
      have := H.1.cells (g := g) rfl j v h
      rwa [Addr.add_lit, Nat.zero_add] at this
    have hrow := fun j => cell_of_row wb g j cur _ (0, 0) hg
    have hsp0 : ∀ j, j < c * 5 → (wb.cell? ⟨g, j, none⟩).isSome = true := fun j hj => by rw [hrow, Array.getElem?_eq_getElem (by omega)]; rfl
    have hfz0 : ∀ j, wb.frozen? ⟨g, j, none⟩ = false := fun j => H.1.frozenAt j
    have hvc0 : ∀ j v, vs[j]? = some v → (wb.alloc (.cells vs.toArray 24)).cell? ⟨wb.heap.size, j, none⟩ = some v := fun j v h => (CellsAt.new wb vs.toArray 24).cell j v (by simpa using h)
    have hvf0 : ∀ j, (wb.alloc (.cells vs.toArray 24)).frozen? ⟨wb.heap.size, j, none⟩ = false := (CellsAt.new wb vs.toArray 24).fr
    have hsa : (wb.alloc (.cells vs.toArray 24)).shape? wb.heap.size = some (24, 5) := by
      unfold World.shape?
      rw [heap_alloc_new]
      simp [hvl]
    have hsb : (wb.alloc (.cells vs.toArray 24)).shape? g = some (24, cur.size) := by
      unfold World.shape?
      rw [hba.block g hgw, hg]
    have hkB : cur.size ≠ 0 := by omega
    have hsz : (wb.alloc (.cells vs.toArray 24)).heap.size = wb.heap.size + 1 := by simp
    have hold1 : ∀ j v, cs[j]? = some v → (wb.alloc (.cells vs.toArray 24)).cell? ⟨g, j, none⟩ = some v := fun j v h => (hba.cell (p := ⟨g, j, none⟩) hgw).trans (hold j v h)
    have hsp1 : ∀ j, j < c * 5 → ((wb.alloc (.cells vs.toArray 24)).cell? ⟨g, j, none⟩).isSome = true := fun j hj => by rw [hba.cell (p := ⟨g, j, none⟩) hgw]; exact hsp0 j hj
    have hfz1 : ∀ j, (wb.alloc (.cells vs.toArray 24)).frozen? ⟨g, j, none⟩ = false := fun j => (hba.frozen (p := ⟨g, j, none⟩) hgw).trans (hfz0 j)
    have hgr : (wb.alloc (.cells vs.toArray 24)).grownBy (wb.alloc (.cells vs.toArray 24)) (some g) := World.grownBy.refl _ _
    have hob : Value.ownBlock (.slice (some ⟨g, 0, none⟩) n c) = some g := rfl
    rw [hob]
    clear hold hrow hsp0 hfz0 ht
    generalize hvb : wb.heap.size = vb at *
    generalize (wb.alloc (.cells vs.toArray 24)) = w at *
    have hne : vb ≠ g := by omega
    have hdl : (cs.drop (i * 5)).length = (n - i) * 5 := by rw [List.length_drop, hcl, Nat.sub_mul]
    have h1d : ∀ v ∈ cs.drop (i * 5), v.oneCell' = true := fun v hv => h1c v (List.mem_of_mem_drop hv)
    obtain ⟨i0, hi0, hz0, hzs, hzb⟩ := info_parts sec_info
    have hinf : (Tryd.prog.info? 24).map (·.size) = some 5 := by rw [hi0]; simp [hzs]
    have hins := fun j => ins_getK (cs := cs) (vs := vs) (p := i * 5) (k := 5) (by rw [hcl]; exact Nat.mul_le_mul_right _ hi) hvl j
    have hw1 : IntKind.i64.wrap ((i : Int) + 1) = (i : Int) + 1 := IntWalk.i64_in _ (by omega)
    have hw2 : IntKind.i64.wrap ((n : Int) + 1) = (n : Int) + 1 := IntWalk.i64_in _ (by omega)
    have mixed : Tryd.prog.follows .mixedOrders = true := by kernel_rfl
    have hz2 : ((i : Int) == (n : Int)) = false := by simp; omega
    have k1 : (i : Int) ≤ (c : Int) := by omega
    have k2 : (0 : Int) ≤ (i : Int) := by omega
    have k2b : (i : Int) ≤ (n : Int) := by omega
    have k2c : (n : Int) ≤ (c : Int) := by omega
    have k2d : (i : Int) + 1 ≤ (n : Int) + 1 := by omega
    have k2e : (0 : Int) ≤ (i : Int) + 1 := by omega
    have k2f : (i : Int) ≤ (n : Int) + 1 := by omega
    by_cases hroom : n + 1 ≤ c
    · have b2 : ¬ (c = i + 1) := by omega
      have b4 : ¬ (c = i) := by omega
      have b5 : (n : Int) + 1 ≤ (c : Int) := by omega
      have b6 : ¬ (c : Int) < (n : Int) + 1 := by omega
      have b7 : (i : Int) + 1 ≤ (c : Int) := by omega
      have hov : ∀ lb cb, (callFunc 63 #[.slice (some ⟨vb, 0, none⟩) 1 1, .slice (some ⟨g, (i + 1) * 5, none⟩) lb cb]).run Tryd.prog w = .ok (.value (.bool false)) w := fun lb cb => by
        rw [run_callFunc_extern Tryd.func63 (by kernel_rfl) (by kernel_rfl) (by kernel_rfl) (e := Extern.SlicesOverlaps.overlaps #[27, 27] #[4]) (by kernel_rfl),
          Lib.run_overlaps_apart w 27 4 24 Tryd.underlying27 5 Tryd.sizeOf24 ⟨vb, 0, none⟩ ⟨g, (i + 1) * 5, none⟩ 1 1 lb cb hne 24 24 5 cur.size hsa hsb hkB (hvf0 0) (hvf0 5)]
        rfl
      have hcp1 : ∀ ty dc sc, (Builtin.copy_ #[27, 27] ty #[.slice (some ⟨g, (i + 1) * 5, none⟩) (n - i) dc, .slice (some ⟨g, i * 5, none⟩) (n + 1 - i) sc]).run Tryd.prog w.drew = .ok (goInt (Nat.min (n + 1 - i) (n - i))) (w.drew.setCells g ((i + 1) * 5) (cs.drop (i * 5))) := fun ty dc sc =>
        run_copy_cellsK w.drew _ _ ty 24 g ((i + 1) * 5) (n - i) dc ⟨g, i * 5, none⟩ (n + 1 - i) sc 5 (cs.drop (i * 5)) Tryd.underlying27 hinf (by rw [hdl, show Nat.min (n + 1 - i) (n - i) = n - i from by simp only [Nat.min_def]; split <;> omega])
          (fun j v hj => by rw [Addr.add_lit]; exact hold1 _ v (by rwa [List.getElem?_drop] at hj)) (fun j hj => hsp1 _ (by omega)) (fun j _ => hfz1 _) h1d
      obtain ⟨W1, hW1⟩ : ∃ W1, W1 = w.drew.setCells g ((i + 1) * 5) (cs.drop (i * 5)) := ⟨_, rfl⟩
      have hspW : ∀ k, k < (n + 1) * 5 → (W1.cell? ⟨g, k, none⟩).isSome = true := fun k hk => by
        rw [hW1]
        exact isSome_setCellsK g (cs.drop (i * 5)) _ _ (fun j hj => by rw [hdl] at hj; exact hsp1 _ (by omega)) _ (hsp1 k (by omega))
      have hfzW : ∀ k, W1.frozen? ⟨g, k, none⟩ = false := fun k => by rw [hW1, World.frozen?_setCells]; exact hfz1 k
      have hcp2 : ∀ (W : World), (∀ x, W.cell? x = W1.cell? x) → (∀ x, W.frozen? x = W1.frozen? x) → ∀ ty dc, (Builtin.copy_ #[27, 27] ty #[.slice (some ⟨g, i * 5, none⟩) (n + 1 - i) dc, .slice (some ⟨vb, 0, none⟩) 1 1]).run Tryd.prog W = .ok (goInt (Nat.min 1 (n + 1 - i))) (W.setCells g (i * 5) vs) := fun W hWc hWf ty dc =>
        run_copy_cellsK W _ _ ty 24 g (i * 5) (n + 1 - i) dc ⟨vb, 0, none⟩ 1 1 5 vs Tryd.underlying27 hinf (by rw [hvl, show Nat.min 1 (n + 1 - i) = 1 from by simp only [Nat.min_def]; split <;> omega])
          (fun j v hj => by
            rw [Addr.add_lit, hWc, hW1, World.cell?_setCells_out g _ _ _ _ (fun h _ => absurd h hne), Nat.zero_add]
            exact hvc0 j v hj)
          (fun j hj => by rw [hWc]; exact hspW _ (by omega)) (fun j _ => by rw [hWf]; exact hfzW _) h1v
      have hfin : ∀ W, W = W1.setCells g (i * 5) vs → SeqP W (fun b => w0.heap.size ≤ b ∧ b < W.heap.size) 5 (some ⟨g, 0, none⟩) (n + 1) (cs.take (i * 5) ++ vs ++ cs.drop (i * 5)) ∧ w.grownBy W (some g) := by
        rintro W rfl
        refine ⟨⟨by simp only [List.length_append, List.length_take, List.length_drop]; omega, fun _ => ⟨g, 0, rfl, ⟨hb, by rw [setCells_size2, hW1, setCells_size2]; show g < w.heap.size; omega⟩, fun j u hu => ?_⟩⟩, grow_setCellsK _ _ _ (by rw [hW1]; exact grow_setCellsK _ _ _ ⟨rfl, rfl, rfl, Nat.le_refl _, fun _ _ _ => rfl⟩)⟩
        rw [Nat.zero_add]
        rw [hins] at hu
        by_cases j1 : j < i * 5
        · rw [if_pos j1] at hu
          rw [World.cell?_setCells_out g _ _ _ ⟨g, j, none⟩ (fun _ _ => .inl j1), hW1, World.cell?_setCells_out g _ _ _ ⟨g, j, none⟩ (fun _ _ => .inl (by dsimp only; omega))]
          exact hold1 j u hu
        · rw [if_neg j1] at hu
          by_cases j2 : j < i * 5 + 5
          · rw [if_pos j2] at hu
            have := World.cell?_setCells_in g vs (i * 5) W1 (fun k hk => hspW _ (by omega)) (j - i * 5) (by omega)
            rw [show i * 5 + (j - i * 5) = j by omega] at this
            rw [this]
            exact (List.getElem?_eq_getElem _).symm.trans hu
          · rw [if_neg j2] at hu
            have hjl := (List.getElem?_eq_some_iff.1 hu).1
            rw [World.cell?_setCells_out g _ _ _ ⟨g, j, none⟩ (fun _ _ => .inr (by dsimp only; omega)), hW1]
            have := World.cell?_setCells_in g (cs.drop (i * 5)) ((i + 1) * 5) w.drew (fun k hk => hsp1 _ (by omega)) (j - (i + 1) * 5) (by omega)
            rw [show (i + 1) * 5 + (j - (i + 1) * 5) = j by omega] at this
            rw [this]
            have h2 : (cs.drop (i * 5))[j - (i + 1) * 5]? = some u := by rw [List.getElem?_drop, show i * 5 + (j - (i + 1) * 5) = j - 5 by omega]; exact hu
            exact (List.getElem?_eq_getElem _).symm.trans h2
      rw [← hW1] at hcp1
      replace hfin := Lib.hid hfin
      replace hins := Lib.hid hins
      clear hold1 hsp1 hfz1 hvc0 hvf0 hspW hfzW h1c h1v h1d hdl hcl hinf hz0 hzs hzb hgr hvl hsa hsb hkB hcs hcap hg H hW1
      go_enter Tryd.func38, Tryd.ntmps38
      repeat' ((fail_if_success at_builtin); (first | go_skip | go_guarded | go_step))
      go_region_law_o (refine step_copy_runI rfl _ _ 27 27 rfl _ _ (by simp [Act.eval, Act.put]) (by simp [Act.eval, Act.put]) (hcp1 _ _ _) ?_)
      repeat' ((fail_if_success at_builtin); (first | go_skip | go_guarded | go_step))
      go_ret
      exact ⟨some ⟨g, 0, none⟩, c, rfl, (hfin.out _ rfl).1, hroom, (hfin.out _ rfl).2⟩
    · have b6 : (c : Int) < (n : Int) + 1 := by omega
      have b7 : (i : Int) + 1 ≤ (c : Int) := by omega
      have hkk : IntKind.i64.wrap ((n : Int) + 1 - (i : Int)) = ((n + 1 - i : Nat) : Int) := by rw [IntWalk.i64_in _ (by omega)]; omega
      have hold2 : (Builtin.firstCells i0.size i (.slice (some ⟨g, 0, none⟩) i c)).run Tryd.prog w.drew = .ok (cs.take (i * 5)).toArray w.drew := by
        rw [hzs]
        exact run_firstCells_some w.drew 5 i ⟨g, 0, none⟩ i c (cs.take (i * 5)) (by rw [List.length_take]; omega) (fun j v hj => by
          rw [Addr.add_lit, Nat.zero_add]
          rw [List.getElem?_take] at hj
          split at hj
          · exact hold1 j v hj
          · cases hj)
      obtain ⟨G, hG⟩ : ∃ G, G = grownCap w (n + 1) c 24 := ⟨_, rfl⟩
      obtain ⟨ROW, hROW⟩ : ∃ ROW : Array Value, ROW = (cs.take (i * 5)).toArray ++ Builtin.zeroCells (.agg #[.string ⟨#[]⟩, .string ⟨#[]⟩, .int .i64 0, .slice none 0 0, .slice none 0 0] : Value).cells (n + 1 - i) ++ Builtin.zeroCells (.agg #[.string ⟨#[]⟩, .string ⟨#[]⟩, .int .i64 0, .slice none 0 0, .slice none 0 0] : Value).cells (G - (n + 1)) := ⟨_, rfl⟩
      have hrz : ∀ ty, (Builtin.append_ #[27, 3] ty #[.slice (some ⟨g, 0, none⟩) i c, .int .i64 ((n + 1 - i : Nat) : Int)]).run Tryd.prog w =
          .ok (.slice (some ⟨w.heap.size, 0, none⟩) (n + 1) G) (w.drew.alloc (.cells ROW 24)) := fun ty => by
        have h := Lib.run_append_grow_zeros w 27 3 ty 24 i0 _ .i64 .i64 Tryd.underlying27 Tryd.underlying3 hi0 hz0 (some ⟨g, 0, none⟩) i c (cs.take (i * 5)) hold2 (n + 1 - i) (by omega) (by omega) (by omega) (by omega) (by rw [hzb]; omega) (by rw [hzb, show i + (n + 1 - i) = n + 1 from by omega]; exact growslice_fits (by omega) (by omega))
        rw [show i + (n + 1 - i) = n + 1 from by omega] at h
        rw [hROW, hG]
        exact h
      have hzl : ∀ k, (Builtin.zeroCells (.agg #[.string ⟨#[]⟩, .string ⟨#[]⟩, .int .i64 0, .slice none 0 0, .slice none 0 0] : Value).cells k).size = k * 5 := fun k => by simp [Builtin.zeroCells, Value.cells]
      have hGn : n + 1 ≤ G := by rw [hG]; exact grownCap_ge w _ _ _
      have hGm : G ≤ maxLen := by rw [hG]; exact grownCap_le_maxLen w (n + 1) c _ (by unfold maxLen; omega)
      have hRl : (n + 1) * 5 ≤ ROW.size := by
        rw [hROW]
        simp only [Array.size_append, hzl, List.size_toArray, List.length_take]
        omega
      have hR1 : ∀ j, j < i * 5 → ROW[j]? = cs[j]? := fun j hj => by
        rw [hROW, Array.append_assoc, Array.getElem?_append_left (by simp; omega)]
        simp [List.getElem?_take_of_lt hj]
      obtain ⟨W1, hW1⟩ : ∃ W1, W1 = w.drew.alloc (.cells ROW 24) := ⟨_, rfl⟩
      rw [← hW1] at hrz
      have hN : ∀ j, j < (n + 1) * 5 → (W1.cell? ⟨w.heap.size, j, none⟩).isSome = true := fun j hj => by
        rw [hW1, World.cell?_alloc_at (w := w.drew) ROW _ w.heap.size j rfl, Array.getElem?_eq_getElem (by omega)]; rfl
      have hN1 : ∀ j, j < i * 5 → W1.cell? ⟨w.heap.size, j, none⟩ = cs[j]? := fun j hj => by
        rw [hW1, World.cell?_alloc_at (w := w.drew) ROW _ w.heap.size j rfl]; exact hR1 j hj
      have hNf : ∀ j, W1.frozen? ⟨w.heap.size, j, none⟩ = false := fun j => by rw [hW1]; exact World.frozen?_alloc_at (w := w.drew) ROW _ w.heap.size j rfl
      have hOb : ∀ j v, w.cell? ⟨g, j, none⟩ = some v → W1.cell? ⟨g, j, none⟩ = some v := fun j v h => by rw [hW1, World.cell?_alloc_past (w := w.drew) _ g j (by show g < w.heap.size; omega)]; exact h
      have hOv : ∀ j v, w.cell? ⟨vb, j, none⟩ = some v → W1.cell? ⟨vb, j, none⟩ = some v := fun j v h => by rw [hW1, World.cell?_alloc_past (w := w.drew) _ vb j (by show vb < w.heap.size; omega)]; exact h
      have hcpA : ∀ (W : World), (∀ x, W.cell? x = W1.cell? x) → (∀ x, W.frozen? x = W1.frozen? x) → ∀ ty dc, (Builtin.copy_ #[27, 27] ty #[.slice (some ⟨w.heap.size, i * 5, none⟩) (n + 1 - i) dc, .slice (some ⟨vb, 0, none⟩) 1 1]).run Tryd.prog W = .ok (goInt (Nat.min 1 (n + 1 - i))) (W.setCells w.heap.size (i * 5) vs) := fun W hWc hWf ty dc =>
        run_copy_cellsK W _ _ ty 24 w.heap.size (i * 5) (n + 1 - i) dc ⟨vb, 0, none⟩ 1 1 5 vs Tryd.underlying27 hinf (by rw [hvl, show Nat.min 1 (n + 1 - i) = 1 from by simp only [Nat.min_def]; split <;> omega])
          (fun j v hj => by rw [Addr.add_lit, hWc, Nat.zero_add]; exact hOv _ v (hvc0 j v hj))
          (fun j hj => by rw [hWc]; exact hN _ (by omega)) (fun j _ => by rw [hWf]; exact hNf _) h1v
      have hgN : g ≠ w.heap.size := by omega
      have hcpB : ∀ (W : World), (∀ x, W.cell? x = (W1.setCells w.heap.size (i * 5) vs).cell? x) → (∀ x, W.frozen? x = (W1.setCells w.heap.size (i * 5) vs).frozen? x) → ∀ ty dc sc, (Builtin.copy_ #[27, 27] ty #[.slice (some ⟨w.heap.size, (i + 1) * 5, none⟩) (n - i) dc, .slice (some ⟨g, i * 5, none⟩) (n - i) sc]).run Tryd.prog W = .ok (goInt (Nat.min (n - i) (n - i))) (W.setCells w.heap.size ((i + 1) * 5) (cs.drop (i * 5))) := fun W hWc hWf ty dc sc =>
        run_copy_cellsK W _ _ ty 24 w.heap.size ((i + 1) * 5) (n - i) dc ⟨g, i * 5, none⟩ (n - i) sc 5 (cs.drop (i * 5)) Tryd.underlying27 hinf (by rw [hdl, show Nat.min (n - i) (n - i) = n - i from Nat.min_self _])
          (fun j v hj => by
            rw [Addr.add_lit, hWc, World.cell?_setCells_out _ _ _ _ _ (fun h _ => absurd h hgN)]
            exact hOb _ v (hold1 _ v (by rwa [List.getElem?_drop] at hj)))
          (fun j hj => by rw [hWc]; exact isSome_setCellsK _ vs _ _ (fun t ht => hN _ (by omega)) _ (hN _ (by omega)))
          (fun j _ => by rw [hWf, World.frozen?_setCells]; exact hNf _) h1d
      have hW1s : W1.heap.size = w.heap.size + 1 := by
        rw [hW1]
        exact (show (w.drew.alloc (.cells ROW 24)).heap.size = w.drew.heap.size + 1 from by simp)
      have hW1b : Below w.heap.size w W1 := by rw [hW1]; exact ((Below.refl _ _).drew).alloc (Nat.le_refl _) _
      have hfin : ∀ W, (∀ x, W.cell? x = ((W1.setCells w.heap.size (i * 5) vs).setCells w.heap.size ((i + 1) * 5) (cs.drop (i * 5))).cell? x) → W.heap.size = w.heap.size + 1 → SeqP W (fun b => w0.heap.size ≤ b ∧ b < W.heap.size) 5 (some ⟨w.heap.size, 0, none⟩) (n + 1) (cs.take (i * 5) ++ vs ++ cs.drop (i * 5)) := by
        intro W hWc hWs
        refine ⟨by simp only [List.length_append, List.length_take, List.length_drop]; omega, fun _ => ⟨w.heap.size, 0, rfl, ⟨by omega, by omega⟩, fun j u hu => ?_⟩⟩
        rw [Nat.zero_add, hWc]
        rw [hins] at hu
        by_cases j1 : j < i * 5
        · rw [if_pos j1] at hu
          rw [World.cell?_setCells_out _ _ _ _ ⟨w.heap.size, j, none⟩ (fun _ _ => .inl (by dsimp only; omega)), World.cell?_setCells_out _ _ _ _ ⟨w.heap.size, j, none⟩ (fun _ _ => .inl j1)]
          exact (hN1 j j1).trans hu
        · rw [if_neg j1] at hu
          by_cases j2 : j < i * 5 + 5
          · rw [if_pos j2] at hu
            rw [World.cell?_setCells_out _ _ _ _ ⟨w.heap.size, j, none⟩ (fun _ _ => .inl (by dsimp only; omega))]
            have := World.cell?_setCells_in w.heap.size vs (i * 5) W1 (fun k hk => hN _ (by omega)) (j - i * 5) (by omega)
            rw [show i * 5 + (j - i * 5) = j by omega] at this
            rw [this]
            exact (List.getElem?_eq_getElem _).symm.trans hu
          · rw [if_neg j2] at hu
            have hjl := (List.getElem?_eq_some_iff.1 hu).1
            have := World.cell?_setCells_in w.heap.size (cs.drop (i * 5)) ((i + 1) * 5) (W1.setCells w.heap.size (i * 5) vs) (fun k hk => isSome_setCellsK _ vs _ _ (fun t ht => hN _ (by omega)) _ (hN _ (by omega))) (j - (i + 1) * 5) (by omega)
            rw [show (i + 1) * 5 + (j - (i + 1) * 5) = j by omega] at this
            rw [this]
            have h2 : (cs.drop (i * 5))[j - (i + 1) * 5]? = some u := by rw [List.getElem?_drop, show i * 5 + (j - (i + 1) * 5) = j - 5 by omega]; exact hu
            exact (List.getElem?_eq_getElem _).symm.trans h2
      have hG63 : G ≤ 9223372036854775807 := by unfold maxLen at hGm; omega
      have hGi : ¬ (G = i) := by omega
      have hGim : ¬ (G = i + 1) := by omega
      have hci : ¬ (c = i) := by omega
      have g1 : (i : Int) ≤ (G : Int) := by omega
      have g2 : (i : Int) + 1 ≤ (G : Int) := by omega
      have g3 : (n : Int) + 1 ≤ (G : Int) := by omega
      replace hfin := Lib.hid hfin
      replace hins := Lib.hid hins
      replace hW1b := Lib.hid hW1b
      replace hW1s := Lib.hid hW1s
      clear hold1 hsp1 hfz1 hvc0 hvf0 h1c h1v h1d hdl hcl hinf hz0 hzs hzb hgr hvl hsa hsb hkB hcs hcap hg H hold2 hROW hG hRl hR1 hN hN1 hNf hOb hOv hzl
      replace hsz := Lib.hid hsz
      clear hW1
      go_enter Tryd.func38, Tryd.ntmps38
      repeat' ((fail_if_success at_builtin); (first | go_skip | go_guarded | go_step))
      refine Lib.wpList_append_run _ rfl _ _ _ _ rfl _ _ rfl rfl _ _ (hrz _) ?_
      repeat' ((fail_if_success at_builtin); (first | go_skip | go_guarded | go_step))
      go_region_law_o (refine step_copy_runI rfl _ _ 27 27 rfl (.slice (some ⟨w.heap.size, (i + 1) * 5, none⟩) (n - i) (G - (i + 1))) (.slice (some ⟨g, i * 5, none⟩) (n - i) (c - i)) (by simp [Act.eval, Act.put]) (by simp [Act.eval, Act.put]) (hcpB ((W1.setCells w.heap.size (i * 5) vs).drew) (fun _ => rfl) (fun _ => rfl) 3 (G - (i + 1)) (c - i)) ?_)
      repeat' ((fail_if_success at_builtin); (first | go_skip | go_guarded | go_step))
      go_ret
      refine ⟨some ⟨w.heap.size, 0, none⟩, G, rfl, hfin.out _ (fun x => by rw [← drew_setCellsK]; rfl) ?_, hGn, growBelow (setCells_below (Nat.le_refl _) _ _ _ ((setCells_below (Nat.le_refl _) _ _ _ hW1b.out).drew))⟩
      rw [setCells_size2]
      show (W1.setCells w.heap.size (i * 5) vs).heap.size = _
      rw [setCells_size2]
      exact hW1s.out
end Go.Proofs.YtgloblokkejgmaaDoor
