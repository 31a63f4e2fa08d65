/- Joined: JnR1 JnR2 CmpP TyPure TyM VaM JnV JnX IdN. -/
import Derived.Lib.TrimByte
import Derived.Lib.Split
import Derived.Lib.SplitLaws
import Derived.Lib.IndexBytes
import Derived.Lib.Strings
import Derived.Deep.MidRow
import Derived.Test.YtgdapkglofchjaaGreatDoorChecked
import Derived.Lib.ConvBytes
import Derived.Test.YtgdapkglofchjaaGreatDoorF10
set_option maxRecDepth 100000
set_option maxHeartbeats 40000000
set_option linter.unusedVariables false
namespace Go.Proofs.YtgdapkglofchjaaGreatDoor
open Go.RowKit
theorem run_res_cell {P : Program} {fn : Func} {tmps : Array Value} {w : World} (slot : Nat) (ty : TypeId) (b o : Nat) (cs : List Value) (d : TypeDesc) (hres : fn.results = #[.cell slot ty]) (ht : tmps[slot]?.getD undef = .pointer (some ⟨b, o, none⟩)) (hc : w.rangeAt b o cs)
  (hu : P.underlying ty = some d) (hd : d.isRow = true) (hi : (P.info? ty).map (·.size) = some cs.length) : (results fn tmps).run P w = .ok (.agg cs.toArray) w := by
 have h := run_loadVar_mid (P := P) w b o ty cs d hc hu hd hi
 unfold results
 rw [hres]
 simp [asAddr, ht, h]
def RetEv (w : World) (l : List FV) (e : Ending) (w' : World) : Prop := ∃ E', e = .returned (.agg E'.toArray) ∧ RecL evC w' (fun b => b < w'.heap.size) l E' ∧ Below w.heap.size w w'
theorem ev_head {w : World} {fs : List FV} {E : List Value} {k : Int} (h : EvR w fs E) (hk : fs[0]? = some (fI k)) : E[0]? = some (.int .i64 k) := by
 obtain ⟨f, fr, c1, c2, rfl, rfl, ⟨x, hx, rfl, rfl⟩, _⟩ := h.rd
 simp only [List.getElem?_cons_zero, Option.some.injEq, Prod.mk.injEq, true_and, and_true] at hk
 subst hk
 rfl
theorem own_range {w0 w : World} {L : List (Nat × List Value)} (h : OwnB w0 w L) (i : Nat) {g : Nat} {cs : List Value} (hi : L[i]? = some (g, cs)) : w.rangeAt g 0 cs := fun j u hu => by rw [Nat.zero_add]; exact (h.all i g cs hi).2.cell j u hu
theorem own_there {w0 w : World} {L : List (Nat × List Value)} (h : OwnB w0 w L) (i : Nat) {g n : Nat} {cs : List Value} (hi : L[i]? = some (g, cs)) (hn : n ≤ cs.length) : w.there g 0 n := fun j hj => by
 rw [Nat.zero_add]
 refine ⟨?_, (h.all i g cs hi).2.fr j⟩
 rw [(h.all i g cs hi).2.cell j _ (List.getElem?_eq_getElem (by omega))]
 rfl
theorem ev_out {w w2 : World} {E2 : List Value} {l : List FV} (hb : Below w.heap.size w w2) (hr : RecL evC w (fun b => b < w.heap.size) l E2) (ht : w2.there (w.heap.size + 1) 0 E2.toArray.size) (hlt : w.heap.size + 1 < w2.heap.size) :
  (w2.setCells (w.heap.size + 1) 0 E2.toArray.toList).rangeAt (w.heap.size + 1) 0 E2 ∧ RecL evC (w2.setCells (w.heap.size + 1) 0 E2.toArray.toList) (fun b => b < (w2.setCells (w.heap.size + 1) 0 E2.toArray.toList).heap.size) l E2 ∧ Below w.heap.size w (w2.setCells (w.heap.size + 1) 0 E2.toArray.toList) := by
 have h1 : Below w.heap.size w (w2.setCells (w.heap.size + 1) 0 E2.toArray.toList) := setCells_below (by omega) _ _ _ hb
 refine ⟨World.rangeAt_setCells_same _ _ _ _ (by simpa using ht), hr.map evC_ok (fun p hp => h1.cell hp) (fun b hb' => Nat.lt_of_lt_of_le hb' h1.size), h1⟩
def fOff : Nat → Nat
 | 0 => 0
 | 1 => 1
 | 2 => 2
 | 3 => 3
 | 4 => 4
 | 5 => 5
 | 6 => 6
 | 7 => 7
 | 8 => 8
 | 9 => 9
 | 10 => 12
 | 11 => 13
 | 12 => 14
 | 13 => 20
 | 14 => 29
 | 15 => 34
 | _ => 0
def fZ : Nat → List Value
 | 0 => [.int .i64 0]
 | 1 => [.int .i64 0]
 | 2 => [.string ⟨#[]⟩]
 | 3 => [.string ⟨#[]⟩]
 | 4 => [.int .i64 0]
 | 5 => [.int .i64 0]
 | 6 => [.int .i64 0]
 | 7 => [.string ⟨#[]⟩]
 | 8 => [.string ⟨#[]⟩]
 | 9 => [.string ⟨#[]⟩, .string ⟨#[]⟩, .bool false]
 | 10 => [.slice none 0 0]
 | 11 => [.slice none 0 0]
 | 12 => [.int .i64 0, .int .i64 0, .slice none 0 0, .slice none 0 0, .slice none 0 0, .string ⟨#[]⟩]
 | 13 => [.string ⟨#[]⟩, .slice none 0 0, .int .i64 0, .int .i64 0, .bool false, .int .i64 0, .int .i64 0, .int .i64 0, .slice none 0 0]
 | 14 => [.string ⟨#[]⟩, .string ⟨#[]⟩, .int .i64 0, .slice none 0 0, .slice none 0 0]
 | 15 => [.string ⟨#[]⟩, .int .i64 0, .string ⟨#[]⟩, .string ⟨#[]⟩, .int .u64 0, .int .i64 0, .int .i64 0, .int .i64 0]
 | _ => []
def clrE (is : List Nat) (E : List Value) : List Value := is.foldl (fun E i => setL E (fOff i) (fZ i)) E
def clrF (is : List Nat) (fs : List FV) : List FV := is.foldl (fun l i => l.set i (zeroFs.getD i (fI 0))) fs
def clrW (b : Nat) (is : List Nat) (w : World) : World := is.foldl (fun w i => w.setCells b (fOff i) (fZ i)) w
theorem clr_one {w : World} {S : Nat → Prop} {fs : List FV} {E : List Value} {i : Nat} (hi : i < 16) (h : RecL evC w S fs E) : RecL evC w S (fs.set i (zeroFs.getD i (fI 0))) (setL E (fOff i) (fZ i)) := by
 match i, hi with
 | 0, _ => exact RecL.put zz0 0 0 evC_ok h rfl rfl
 | 1, _ => exact RecL.put zz1 1 1 evC_ok h rfl rfl
 | 2, _ => exact RecL.put zz2 2 2 evC_ok h rfl rfl
 | 3, _ => exact RecL.put zz3 3 3 evC_ok h rfl rfl
 | 4, _ => exact RecL.put zz4 4 4 evC_ok h rfl rfl
 | 5, _ => exact RecL.put zz5 5 5 evC_ok h rfl rfl
 | 6, _ => exact RecL.put zz6 6 6 evC_ok h rfl rfl
 | 7, _ => exact RecL.put zz7 7 7 evC_ok h rfl rfl
 | 8, _ => exact RecL.put zz8 8 8 evC_ok h rfl rfl
 | 9, _ => exact RecL.put zz9 9 9 evC_ok h rfl rfl
 | 10, _ => exact RecL.put zz10 10 12 evC_ok h rfl rfl
 | 11, _ => exact RecL.put zz11 11 13 evC_ok h rfl rfl
 | 12, _ => exact RecL.put zz12 12 14 evC_ok h rfl rfl
 | 13, _ => exact RecL.put zz13 13 20 evC_ok h rfl rfl
 | 14, _ => exact RecL.put zz14 14 29 evC_ok h rfl rfl
 | 15, _ => exact RecL.put zz15 15 34 evC_ok h rfl rfl
 | n + 16, hi => exact absurd hi (by omega)
theorem clr_rd {w : World} {S : Nat → Prop} : ∀ (is : List Nat) {fs : List FV} {E : List Value}, (∀ i ∈ is, i < 16) → RecL evC w S fs E → RecL evC w S (clrF is fs) (clrE is E)
 | [], _, _, _, h => h
 | i :: is, _, _, hi, h => clr_rd is (fun j hj => hi j (List.mem_cons_of_mem _ hj)) (clr_one (hi i (List.mem_cons_self ..)) h)
theorem own_setL {w0 : World} {g gB : Nat} {Z : List Value} : ∀ (zs : List Value) (o : Nat) {w : World} {cs : List Value}, OwnB w0 w [(gB, Z), (g, cs)] → OwnB w0 (w.setCells g o zs) [(gB, Z), (g, setL cs o zs)]
 | [], _, _, _, h => h
 | z :: zs, o, _, _, h => own_setL zs (o + 1) (h.store 1 rfl o z)
theorem own_clr {w0 : World} {g gB : Nat} {Z : List Value} : ∀ (is : List Nat) {w : World} {cs : List Value}, OwnB w0 w [(gB, Z), (g, cs)] → OwnB w0 (clrW g is w) [(gB, Z), (g, clrE is cs)]
 | [], _, _, h => h
 | i :: is, _, _, h => own_clr is (own_setL (fZ i) (fOff i) h)
theorem rest_head {w w1 : World} {fs : List FV} {E : List Value} {k : Nat} {t t' : TypeId} (h : EvR w fs E) (hk : fs[0]? = some (fI (k : Int))) (hx : (w.alloc (.cells E.toArray t)).alloc (.cells evZ.toArray t') = w1) :
  OwnB w w1 [(w.heap.size + 1, evZ), (w.heap.size, E)] ∧ w1.cell? ⟨w.heap.size, 0, none⟩ = some (.int .i64 (k : Int)) ∧ (∀ j, j < 42 → ∃ v, w1.cell? ⟨w.heap.size, j, none⟩ = some v) ∧ ∀ j, w1.frozen? ⟨w.heap.size, j, none⟩ = false := by
 have hO : OwnB w w1 [(w.heap.size + 1, evZ), (w.heap.size, E)] := by rw [← hx]; exact ((OwnB.refl w).new E.toArray _ (g := w.heap.size)).new evZ.toArray _ (g := w.heap.size + 1)
 have hl := h.len
 exact ⟨hO, hO.c 1 0 rfl (ev_head h hk), fun j hj => ⟨_, hO.c 1 j rfl (List.getElem?_eq_getElem (show j < E.length by omega))⟩, hO.fr 1⟩
theorem rest_fin {w w1 w2 : World} {fs : List FV} {E : List Value} {k : Nat} (o : Nat → List Nat) (h : EvR w fs E) (hk : fs[0]? = some (fI (k : Int))) (hO : OwnB w w1 [(w.heap.size + 1, evZ), (w.heap.size, E)]) (hx : clrW w.heap.size (o k) w1 = w2) (hi : ∀ i ∈ o k, i < 16 := by decide)
  (hf : ∀ a1 a2 a3 a4 a5 a6 a7 a8 a9 b1 b2 b3 b4 b5 b6 b7 : FV, clrF (o k) [a1, a2, a3, a4, a5, a6, a7, a8, a9, b1, b2, b3, b4, b5, b6, b7] = restF k [a1, a2, a3, a4, a5, a6, a7, a8, a9, b1, b2, b3, b4, b5, b6, b7] := by intros; rfl) :
  ∃ E2, w2.rangeAt w.heap.size 0 E2 ∧ w2.there (w.heap.size + 1) 0 E2.toArray.size ∧ E2.toArray.all (·.oneCell') = true ∧ (Tryz.prog.info? 43).map (·.size) = some E2.length ∧ (Tryz.prog.info? 43).map (·.size) = some E2.toArray.size ∧
   (w2.setCells (w.heap.size + 1) 0 E2.toArray.toList).rangeAt (w.heap.size + 1) 0 E2 ∧ RecL evC (w2.setCells (w.heap.size + 1) 0 E2.toArray.toList) (fun b => b < (w2.setCells (w.heap.size + 1) 0 E2.toArray.toList).heap.size) (restF k fs) E2 ∧ Below w.heap.size w (w2.setCells (w.heap.size + 1) 0 E2.toArray.toList) := by
 have hO2 := own_clr (o k) hO
 rw [hx] at hO2
 have hrd := clr_rd (o k) hi h.rd
 obtain ⟨a1, a2, a3, a4, a5, a6, a7, a8, a9, b1, b2, b3, b4, b5, b6, b7, rfl⟩ := sixteen (h.rd.len evC_ok).2
 rw [hf] at hrd
 generalize clrE (o k) E = E2 at *
 have hl2 : E2.length = 42 := (hrd.len evC_ok).1
 have hi2 := ev_info hl2
 have hT : w2.there (w.heap.size + 1) 0 E2.toArray.size := own_there hO2 0 rfl (by rw [List.size_toArray, hl2]; decide)
 exact ⟨E2, own_range hO2 1 rfl, hT, all_oneCell_toArray (hrd.one evC_ok), hi2, by rw [List.size_toArray]; exact hi2, ev_out hO2.below hrd hT (hO2.lt 0)⟩
def ordP : Nat → List Nat
 | 1 => [0, 1, 2, 4, 9, 8, 10, 11]
 | 2 => [0, 1, 2, 3, 4, 5, 7]
 | 3 => [0, 1, 2, 3, 4, 5, 12, 8]
 | 4 => [0, 1, 2, 3, 4, 5, 6]
 | 5 => [0, 1, 2, 3, 7]
 | 6 => [0, 1, 2, 3, 7]
 | 7 => [0, 1, 2, 6]
 | 8 => [0, 1, 2, 3]
 | 9 => [0, 1, 2]
 | 10 => [0, 1, 8, 4, 5, 6]
 | 11 => [0, 1, 13]
 | 12 => [0, 1, 7]
 | 13 => [0, 1, 7]
 | 14 => [0, 1, 14]
 | 15 => [0, 1, 2, 3, 5, 15]
 | _ => []
theorem prest_0 (k : Nat) (hd : k = 1 ∨ k = 2 ∨ k = 4 ∨ k = 5 ∨ k = 6 ∨ k = 7 ∨ k = 8 ∨ k = 9 ∨ k = 10 ∨ k = 12 ∨ k = 13) (fs : List FV) (E : List Value) (w : World) (h : EvR w fs E) (hk : fs[0]? = some (fI (k : Int))) : Calls Tryz.prog 29 #[.agg E.toArray] w (RetEv w (restF k fs)) := by
 rcases hd with rfl | rfl | rfl | rfl | rfl | rfl | rfl | rfl | rfl | rfl | rfl
 all_goals
  go_enter Tryz.func29, Tryz.ntmps29
  go_upto_region 1 with (fail)
  generalize hx_ : World.alloc (World.alloc w _) _ = w1
  obtain ⟨hO, c0, hC, cf⟩ := rest_head h hk hx_
  clear hx_
  obtain ⟨v1, c1⟩ := hC 1 (by decide)
  obtain ⟨v2, c2⟩ := hC 2 (by decide)
  obtain ⟨v3, c3⟩ := hC 3 (by decide)
  obtain ⟨v4, c4⟩ := hC 4 (by decide)
  obtain ⟨v5, c5⟩ := hC 5 (by decide)
  obtain ⟨v6, c6⟩ := hC 6 (by decide)
  obtain ⟨v7, c7⟩ := hC 7 (by decide)
  obtain ⟨v8, c8⟩ := hC 8 (by decide)
  obtain ⟨v9, c9⟩ := hC 9 (by decide)
  obtain ⟨v10, c10⟩ := hC 10 (by decide)
  obtain ⟨v11, c11⟩ := hC 11 (by decide)
  obtain ⟨v12, c12⟩ := hC 12 (by decide)
  obtain ⟨v13, c13⟩ := hC 13 (by decide)
  go_upto_region 32 with (fail)
  generalize hy_ : World.setCell _ _ _ = w2
  obtain ⟨E2, hR, hT, h1, hi2, hi3, o1, o2, o3⟩ := rest_fin ordP h hk hO hy_
  clear cf hC hO hy_ c0 c1 c2 c3 c4 c5 c6 c7 c8 c9 c10 c11 c12 c13
  repeat' (first | (refine wpList_load_mid rfl 43 _ rfl w.heap.size 0 rfl E2 _ hR Tryz.underlying43 rfl hi2 ?_) | (refine wpList_store_mid rfl 43 _ _ rfl (w.heap.size + 1) 0 E2.toArray rfl rfl hT hi3 h1 ?_) | go_skip | go_guarded | go_step)
  refine bodyPost_ret (v := .agg E2.toArray) (run_res_cell 2 43 (w.heap.size + 1) 0 E2 _ rfl rfl o1 Tryz.underlying43 rfl hi2) rfl ?_
  exact ⟨E2, rfl, o2, o3⟩
theorem prest_1 (k : Nat) (hd : k = 3) (fs : List FV) (E : List Value) (w : World) (h : EvR w fs E) (hk : fs[0]? = some (fI (k : Int))) : Calls Tryz.prog 29 #[.agg E.toArray] w (RetEv w (restF k fs)) := by
 subst hd
 go_enter Tryz.func29, Tryz.ntmps29
 go_upto_region 1 with (fail)
 generalize hx_ : World.alloc (World.alloc w _) _ = w1
 obtain ⟨hO, c0, hC, cf⟩ := rest_head h hk hx_
 clear hx_
 obtain ⟨v1, c1⟩ := hC 1 (by decide)
 obtain ⟨v2, c2⟩ := hC 2 (by decide)
 obtain ⟨v3, c3⟩ := hC 3 (by decide)
 obtain ⟨v4, c4⟩ := hC 4 (by decide)
 obtain ⟨v5, c5⟩ := hC 5 (by decide)
 obtain ⟨v8, c8⟩ := hC 8 (by decide)
 obtain ⟨v14, c14⟩ := hC 14 (by decide)
 obtain ⟨v15, c15⟩ := hC 15 (by decide)
 obtain ⟨v16, c16⟩ := hC 16 (by decide)
 obtain ⟨v17, c17⟩ := hC 17 (by decide)
 obtain ⟨v18, c18⟩ := hC 18 (by decide)
 obtain ⟨v19, c19⟩ := hC 19 (by decide)
 go_upto_region 32 with (fail)
 generalize hy_ : World.setCell _ _ _ = w2
 obtain ⟨E2, hR, hT, h1, hi2, hi3, o1, o2, o3⟩ := rest_fin ordP h hk hO hy_
 clear cf hC hO hy_ c0 c1 c2 c3 c4 c5 c8 c14 c15 c16 c17 c18 c19
 repeat' (first | (refine wpList_load_mid rfl 43 _ rfl w.heap.size 0 rfl E2 _ hR Tryz.underlying43 rfl hi2 ?_) | (refine wpList_store_mid rfl 43 _ _ rfl (w.heap.size + 1) 0 E2.toArray rfl rfl hT hi3 h1 ?_) | go_skip | go_guarded | go_step)
 refine bodyPost_ret (v := .agg E2.toArray) (run_res_cell 2 43 (w.heap.size + 1) 0 E2 _ rfl rfl o1 Tryz.underlying43 rfl hi2) rfl ?_
 exact ⟨E2, rfl, o2, o3⟩
theorem prest_2 (k : Nat) (hd : k = 11) (fs : List FV) (E : List Value) (w : World) (h : EvR w fs E) (hk : fs[0]? = some (fI (k : Int))) : Calls Tryz.prog 29 #[.agg E.toArray] w (RetEv w (restF k fs)) := by
 subst hd
 go_enter Tryz.func29, Tryz.ntmps29
 go_upto_region 1 with (fail)
 generalize hx_ : World.alloc (World.alloc w _) _ = w1
 obtain ⟨hO, c0, hC, cf⟩ := rest_head h hk hx_
 clear hx_
 obtain ⟨v1, c1⟩ := hC 1 (by decide)
 obtain ⟨v20, c20⟩ := hC 20 (by decide)
 obtain ⟨v21, c21⟩ := hC 21 (by decide)
 obtain ⟨v22, c22⟩ := hC 22 (by decide)
 obtain ⟨v23, c23⟩ := hC 23 (by decide)
 obtain ⟨v24, c24⟩ := hC 24 (by decide)
 obtain ⟨v25, c25⟩ := hC 25 (by decide)
 obtain ⟨v26, c26⟩ := hC 26 (by decide)
 obtain ⟨v27, c27⟩ := hC 27 (by decide)
 obtain ⟨v28, c28⟩ := hC 28 (by decide)
 go_upto_region 32 with (fail)
 generalize hy_ : World.setCell _ _ _ = w2
 obtain ⟨E2, hR, hT, h1, hi2, hi3, o1, o2, o3⟩ := rest_fin ordP h hk hO hy_
 clear cf hC hO hy_ c0 c1 c20 c21 c22 c23 c24 c25 c26 c27 c28
 repeat' (first | (refine wpList_load_mid rfl 43 _ rfl w.heap.size 0 rfl E2 _ hR Tryz.underlying43 rfl hi2 ?_) | (refine wpList_store_mid rfl 43 _ _ rfl (w.heap.size + 1) 0 E2.toArray rfl rfl hT hi3 h1 ?_) | go_skip | go_guarded | go_step)
 refine bodyPost_ret (v := .agg E2.toArray) (run_res_cell 2 43 (w.heap.size + 1) 0 E2 _ rfl rfl o1 Tryz.underlying43 rfl hi2) rfl ?_
 exact ⟨E2, rfl, o2, o3⟩
theorem prest_3 (k : Nat) (hd : k = 14) (fs : List FV) (E : List Value) (w : World) (h : EvR w fs E) (hk : fs[0]? = some (fI (k : Int))) : Calls Tryz.prog 29 #[.agg E.toArray] w (RetEv w (restF k fs)) := by
 subst hd
 go_enter Tryz.func29, Tryz.ntmps29
 go_upto_region 1 with (fail)
 generalize hx_ : World.alloc (World.alloc w _) _ = w1
 obtain ⟨hO, c0, hC, cf⟩ := rest_head h hk hx_
 clear hx_
 obtain ⟨v1, c1⟩ := hC 1 (by decide)
 obtain ⟨v29, c29⟩ := hC 29 (by decide)
 obtain ⟨v30, c30⟩ := hC 30 (by decide)
 obtain ⟨v31, c31⟩ := hC 31 (by decide)
 obtain ⟨v32, c32⟩ := hC 32 (by decide)
 obtain ⟨v33, c33⟩ := hC 33 (by decide)
 go_upto_region 32 with (fail)
 generalize hy_ : World.setCell _ _ _ = w2
 obtain ⟨E2, hR, hT, h1, hi2, hi3, o1, o2, o3⟩ := rest_fin ordP h hk hO hy_
 clear cf hC hO hy_ c0 c1 c29 c30 c31 c32 c33
 repeat' (first | (refine wpList_load_mid rfl 43 _ rfl w.heap.size 0 rfl E2 _ hR Tryz.underlying43 rfl hi2 ?_) | (refine wpList_store_mid rfl 43 _ _ rfl (w.heap.size + 1) 0 E2.toArray rfl rfl hT hi3 h1 ?_) | go_skip | go_guarded | go_step)
 refine bodyPost_ret (v := .agg E2.toArray) (run_res_cell 2 43 (w.heap.size + 1) 0 E2 _ rfl rfl o1 Tryz.underlying43 rfl hi2) rfl ?_
 exact ⟨E2, rfl, o2, o3⟩
theorem prest_4 (k : Nat) (hd : k = 15) (fs : List FV) (E : List Value) (w : World) (h : EvR w fs E) (hk : fs[0]? = some (fI (k : Int))) : Calls Tryz.prog 29 #[.agg E.toArray] w (RetEv w (restF k fs)) := by
 subst hd
 go_enter Tryz.func29, Tryz.ntmps29
 go_upto_region 1 with (fail)
 generalize hx_ : World.alloc (World.alloc w _) _ = w1
 obtain ⟨hO, c0, hC, cf⟩ := rest_head h hk hx_
 clear hx_
 obtain ⟨v1, c1⟩ := hC 1 (by decide)
 obtain ⟨v2, c2⟩ := hC 2 (by decide)
 obtain ⟨v3, c3⟩ := hC 3 (by decide)
 obtain ⟨v5, c5⟩ := hC 5 (by decide)
 obtain ⟨v34, c34⟩ := hC 34 (by decide)
 obtain ⟨v35, c35⟩ := hC 35 (by decide)
 obtain ⟨v36, c36⟩ := hC 36 (by decide)
 obtain ⟨v37, c37⟩ := hC 37 (by decide)
 obtain ⟨v38, c38⟩ := hC 38 (by decide)
 obtain ⟨v39, c39⟩ := hC 39 (by decide)
 obtain ⟨v40, c40⟩ := hC 40 (by decide)
 obtain ⟨v41, c41⟩ := hC 41 (by decide)
 go_upto_region 32 with (fail)
 generalize hy_ : World.setCell _ _ _ = w2
 obtain ⟨E2, hR, hT, h1, hi2, hi3, o1, o2, o3⟩ := rest_fin ordP h hk hO hy_
 clear cf hC hO hy_ c0 c1 c2 c3 c5 c34 c35 c36 c37 c38 c39 c40 c41
 repeat' (first | (refine wpList_load_mid rfl 43 _ rfl w.heap.size 0 rfl E2 _ hR Tryz.underlying43 rfl hi2 ?_) | (refine wpList_store_mid rfl 43 _ _ rfl (w.heap.size + 1) 0 E2.toArray rfl rfl hT hi3 h1 ?_) | go_skip | go_guarded | go_step)
 refine bodyPost_ret (v := .agg E2.toArray) (run_res_cell 2 43 (w.heap.size + 1) 0 E2 _ rfl rfl o1 Tryz.underlying43 rfl hi2) rfl ?_
 exact ⟨E2, rfl, o2, o3⟩
theorem prest_any (k : Nat) (h0 : 1 ≤ k) (h1 : k ≤ 15) (fs : List FV) (E : List Value) (w : World) (h : EvR w fs E) (hk : fs[0]? = some (fI (k : Int))) : Calls Tryz.prog 29 #[.agg E.toArray] w (RetEv w (restF k fs)) := by
 rcases (show (k = 1 ∨ k = 2 ∨ k = 4 ∨ k = 5 ∨ k = 6 ∨ k = 7 ∨ k = 8 ∨ k = 9 ∨ k = 10 ∨ k = 12 ∨ k = 13) ∨ k = 3 ∨ k = 11 ∨ k = 14 ∨ k = 15 by omega) with hd | hd | hd | hd | hd
 ·exact prest_0 k hd fs E w h hk
 ·exact prest_1 k hd fs E w h hk
 ·exact prest_2 k hd fs E w h hk
 ·exact prest_3 k hd fs E w h hk
 ·exact prest_4 k hd fs E w h hk
def ordU : Nat → List Nat
 | 1 => [0, 1, 2, 4, 8, 9, 10, 11]
 | 2 => [0, 1, 2, 3, 4, 5, 7]
 | 3 => [0, 1, 2, 3, 4, 5, 8, 12]
 | 4 => [0, 1, 2, 3, 4, 5, 6]
 | 5 => [0, 1, 2, 3, 7]
 | 6 => [0, 1, 2, 3, 7]
 | 7 => [0, 1, 2, 6]
 | 8 => [0, 1, 2, 3]
 | 9 => [0, 1, 2]
 | 10 => [0, 1, 4, 5, 6, 8]
 | 11 => [0, 1, 13]
 | 12 => [0, 1, 7]
 | 13 => [0, 1, 7]
 | 14 => [0, 1, 14]
 | 15 => [0, 1, 2, 3, 5, 15]
 | _ => []
theorem runused_0 (k : Nat) (hd : k = 1 ∨ k = 2 ∨ k = 4 ∨ k = 5 ∨ k = 6 ∨ k = 7 ∨ k = 8 ∨ k = 9 ∨ k = 10 ∨ k = 12 ∨ k = 13) (fs : List FV) (E : List Value) (w : World) (h : EvR w fs E) (hk : fs[0]? = some (fI (k : Int))) : Calls Tryz.prog 25 #[.agg E.toArray] w (RetEv w (restF k fs)) := by
 rcases hd with rfl | rfl | rfl | rfl | rfl | rfl | rfl | rfl | rfl | rfl | rfl
 all_goals
  go_enter Tryz.func25, Tryz.ntmps25
  go_upto_region 1 with (fail)
  generalize hx_ : World.alloc (World.alloc w _) _ = w1
  obtain ⟨hO, c0, hC, cf⟩ := rest_head h hk hx_
  clear hx_
  obtain ⟨v1, c1⟩ := hC 1 (by decide)
  obtain ⟨v2, c2⟩ := hC 2 (by decide)
  obtain ⟨v3, c3⟩ := hC 3 (by decide)
  obtain ⟨v4, c4⟩ := hC 4 (by decide)
  obtain ⟨v5, c5⟩ := hC 5 (by decide)
  obtain ⟨v6, c6⟩ := hC 6 (by decide)
  obtain ⟨v7, c7⟩ := hC 7 (by decide)
  obtain ⟨v8, c8⟩ := hC 8 (by decide)
  obtain ⟨v9, c9⟩ := hC 9 (by decide)
  obtain ⟨v10, c10⟩ := hC 10 (by decide)
  obtain ⟨v11, c11⟩ := hC 11 (by decide)
  obtain ⟨v12, c12⟩ := hC 12 (by decide)
  obtain ⟨v13, c13⟩ := hC 13 (by decide)
  go_upto_region 28 with (fail)
  generalize hy_ : World.setCell _ _ _ = w2
  obtain ⟨E2, hR, hT, h1, hi2, hi3, o1, o2, o3⟩ := rest_fin ordU h hk hO hy_
  clear cf hC hO hy_ c0 c1 c2 c3 c4 c5 c6 c7 c8 c9 c10 c11 c12 c13
  repeat' (first | (refine wpList_load_mid rfl 43 _ rfl w.heap.size 0 rfl E2 _ hR Tryz.underlying43 rfl hi2 ?_) | (refine wpList_store_mid rfl 43 _ _ rfl (w.heap.size + 1) 0 E2.toArray rfl rfl hT hi3 h1 ?_) | go_skip | go_guarded | go_step)
  refine bodyPost_ret (v := .agg E2.toArray) (run_res_cell 2 43 (w.heap.size + 1) 0 E2 _ rfl rfl o1 Tryz.underlying43 rfl hi2) rfl ?_
  exact ⟨E2, rfl, o2, o3⟩
theorem runused_1 (k : Nat) (hd : k = 3) (fs : List FV) (E : List Value) (w : World) (h : EvR w fs E) (hk : fs[0]? = some (fI (k : Int))) : Calls Tryz.prog 25 #[.agg E.toArray] w (RetEv w (restF k fs)) := by
 subst hd
 go_enter Tryz.func25, Tryz.ntmps25
 go_upto_region 1 with (fail)
 generalize hx_ : World.alloc (World.alloc w _) _ = w1
 obtain ⟨hO, c0, hC, cf⟩ := rest_head h hk hx_
 clear hx_
 obtain ⟨v1, c1⟩ := hC 1 (by decide)
 obtain ⟨v2, c2⟩ := hC 2 (by decide)
 obtain ⟨v3, c3⟩ := hC 3 (by decide)
 obtain ⟨v4, c4⟩ := hC 4 (by decide)
 obtain ⟨v5, c5⟩ := hC 5 (by decide)
 obtain ⟨v8, c8⟩ := hC 8 (by decide)
 obtain ⟨v14, c14⟩ := hC 14 (by decide)
 obtain ⟨v15, c15⟩ := hC 15 (by decide)
 obtain ⟨v16, c16⟩ := hC 16 (by decide)
 obtain ⟨v17, c17⟩ := hC 17 (by decide)
 obtain ⟨v18, c18⟩ := hC 18 (by decide)
 obtain ⟨v19, c19⟩ := hC 19 (by decide)
 go_upto_region 28 with (fail)
 generalize hy_ : World.setCell _ _ _ = w2
 obtain ⟨E2, hR, hT, h1, hi2, hi3, o1, o2, o3⟩ := rest_fin ordU h hk hO hy_
 clear cf hC hO hy_ c0 c1 c2 c3 c4 c5 c8 c14 c15 c16 c17 c18 c19
 repeat' (first | (refine wpList_load_mid rfl 43 _ rfl w.heap.size 0 rfl E2 _ hR Tryz.underlying43 rfl hi2 ?_) | (refine wpList_store_mid rfl 43 _ _ rfl (w.heap.size + 1) 0 E2.toArray rfl rfl hT hi3 h1 ?_) | go_skip | go_guarded | go_step)
 refine bodyPost_ret (v := .agg E2.toArray) (run_res_cell 2 43 (w.heap.size + 1) 0 E2 _ rfl rfl o1 Tryz.underlying43 rfl hi2) rfl ?_
 exact ⟨E2, rfl, o2, o3⟩
theorem runused_2 (k : Nat) (hd : k = 11) (fs : List FV) (E : List Value) (w : World) (h : EvR w fs E) (hk : fs[0]? = some (fI (k : Int))) : Calls Tryz.prog 25 #[.agg E.toArray] w (RetEv w (restF k fs)) := by
 subst hd
 go_enter Tryz.func25, Tryz.ntmps25
 go_upto_region 1 with (fail)
 generalize hx_ : World.alloc (World.alloc w _) _ = w1
 obtain ⟨hO, c0, hC, cf⟩ := rest_head h hk hx_
 clear hx_
 obtain ⟨v1, c1⟩ := hC 1 (by decide)
 obtain ⟨v20, c20⟩ := hC 20 (by decide)
 obtain ⟨v21, c21⟩ := hC 21 (by decide)
 obtain ⟨v22, c22⟩ := hC 22 (by decide)
 obtain ⟨v23, c23⟩ := hC 23 (by decide)
 obtain ⟨v24, c24⟩ := hC 24 (by decide)
 obtain ⟨v25, c25⟩ := hC 25 (by decide)
 obtain ⟨v26, c26⟩ := hC 26 (by decide)
 obtain ⟨v27, c27⟩ := hC 27 (by decide)
 obtain ⟨v28, c28⟩ := hC 28 (by decide)
 go_upto_region 28 with (fail)
 generalize hy_ : World.setCell _ _ _ = w2
 obtain ⟨E2, hR, hT, h1, hi2, hi3, o1, o2, o3⟩ := rest_fin ordU h hk hO hy_
 clear cf hC hO hy_ c0 c1 c20 c21 c22 c23 c24 c25 c26 c27 c28
 repeat' (first | (refine wpList_load_mid rfl 43 _ rfl w.heap.size 0 rfl E2 _ hR Tryz.underlying43 rfl hi2 ?_) | (refine wpList_store_mid rfl 43 _ _ rfl (w.heap.size + 1) 0 E2.toArray rfl rfl hT hi3 h1 ?_) | go_skip | go_guarded | go_step)
 refine bodyPost_ret (v := .agg E2.toArray) (run_res_cell 2 43 (w.heap.size + 1) 0 E2 _ rfl rfl o1 Tryz.underlying43 rfl hi2) rfl ?_
 exact ⟨E2, rfl, o2, o3⟩
theorem runused_3 (k : Nat) (hd : k = 14) (fs : List FV) (E : List Value) (w : World) (h : EvR w fs E) (hk : fs[0]? = some (fI (k : Int))) : Calls Tryz.prog 25 #[.agg E.toArray] w (RetEv w (restF k fs)) := by
 subst hd
 go_enter Tryz.func25, Tryz.ntmps25
 go_upto_region 1 with (fail)
 generalize hx_ : World.alloc (World.alloc w _) _ = w1
 obtain ⟨hO, c0, hC, cf⟩ := rest_head h hk hx_
 clear hx_
 obtain ⟨v1, c1⟩ := hC 1 (by decide)
 obtain ⟨v29, c29⟩ := hC 29 (by decide)
 obtain ⟨v30, c30⟩ := hC 30 (by decide)
 obtain ⟨v31, c31⟩ := hC 31 (by decide)
 obtain ⟨v32, c32⟩ := hC 32 (by decide)
 obtain ⟨v33, c33⟩ := hC 33 (by decide)
 go_upto_region 28 with (fail)
 generalize hy_ : World.setCell _ _ _ = w2
 obtain ⟨E2, hR, hT, h1, hi2, hi3, o1, o2, o3⟩ := rest_fin ordU h hk hO hy_
 clear cf hC hO hy_ c0 c1 c29 c30 c31 c32 c33
 repeat' (first | (refine wpList_load_mid rfl 43 _ rfl w.heap.size 0 rfl E2 _ hR Tryz.underlying43 rfl hi2 ?_) | (refine wpList_store_mid rfl 43 _ _ rfl (w.heap.size + 1) 0 E2.toArray rfl rfl hT hi3 h1 ?_) | go_skip | go_guarded | go_step)
 refine bodyPost_ret (v := .agg E2.toArray) (run_res_cell 2 43 (w.heap.size + 1) 0 E2 _ rfl rfl o1 Tryz.underlying43 rfl hi2) rfl ?_
 exact ⟨E2, rfl, o2, o3⟩
theorem runused_4 (k : Nat) (hd : k = 15) (fs : List FV) (E : List Value) (w : World) (h : EvR w fs E) (hk : fs[0]? = some (fI (k : Int))) : Calls Tryz.prog 25 #[.agg E.toArray] w (RetEv w (restF k fs)) := by
 subst hd
 go_enter Tryz.func25, Tryz.ntmps25
 go_upto_region 1 with (fail)
 generalize hx_ : World.alloc (World.alloc w _) _ = w1
 obtain ⟨hO, c0, hC, cf⟩ := rest_head h hk hx_
 clear hx_
 obtain ⟨v1, c1⟩ := hC 1 (by decide)
 obtain ⟨v2, c2⟩ := hC 2 (by decide)
 obtain ⟨v3, c3⟩ := hC 3 (by decide)
 obtain ⟨v5, c5⟩ := hC 5 (by decide)
 obtain ⟨v34, c34⟩ := hC 34 (by decide)
 obtain ⟨v35, c35⟩ := hC 35 (by decide)
 obtain ⟨v36, c36⟩ := hC 36 (by decide)
 obtain ⟨v37, c37⟩ := hC 37 (by decide)
 obtain ⟨v38, c38⟩ := hC 38 (by decide)
 obtain ⟨v39, c39⟩ := hC 39 (by decide)
 obtain ⟨v40, c40⟩ := hC 40 (by decide)
 obtain ⟨v41, c41⟩ := hC 41 (by decide)
 go_upto_region 28 with (fail)
 generalize hy_ : World.setCell _ _ _ = w2
 obtain ⟨E2, hR, hT, h1, hi2, hi3, o1, o2, o3⟩ := rest_fin ordU h hk hO hy_
 clear cf hC hO hy_ c0 c1 c2 c3 c5 c34 c35 c36 c37 c38 c39 c40 c41
 repeat' (first | (refine wpList_load_mid rfl 43 _ rfl w.heap.size 0 rfl E2 _ hR Tryz.underlying43 rfl hi2 ?_) | (refine wpList_store_mid rfl 43 _ _ rfl (w.heap.size + 1) 0 E2.toArray rfl rfl hT hi3 h1 ?_) | go_skip | go_guarded | go_step)
 refine bodyPost_ret (v := .agg E2.toArray) (run_res_cell 2 43 (w.heap.size + 1) 0 E2 _ rfl rfl o1 Tryz.underlying43 rfl hi2) rfl ?_
 exact ⟨E2, rfl, o2, o3⟩
theorem runused_any (k : Nat) (h0 : 1 ≤ k) (h1 : k ≤ 15) (fs : List FV) (E : List Value) (w : World) (h : EvR w fs E) (hk : fs[0]? = some (fI (k : Int))) : Calls Tryz.prog 25 #[.agg E.toArray] w (RetEv w (restF k fs)) := by
 rcases (show (k = 1 ∨ k = 2 ∨ k = 4 ∨ k = 5 ∨ k = 6 ∨ k = 7 ∨ k = 8 ∨ k = 9 ∨ k = 10 ∨ k = 12 ∨ k = 13) ∨ k = 3 ∨ k = 11 ∨ k = 14 ∨ k = 15 by omega) with hd | hd | hd | hd | hd
 ·exact runused_0 k hd fs E w h hk
 ·exact runused_1 k hd fs E w h hk
 ·exact runused_2 k hd fs E w h hk
 ·exact runused_3 k hd fs E w h hk
 ·exact runused_4 k hd fs E w h hk
end Go.Proofs.YtgdapkglofchjaaGreatDoor
namespace Go.Proofs.YtgdapkglofchjaaGreatDoor
def isDg (c : Nat) : Bool := decide (48 ≤ c) && decide (c ≤ 57)
def runN : List UInt8 → Nat
 | [] => 0
 | c :: l => if isDg c.toNat then runN l + 1 else 0
def stripL (l : List UInt8) : List UInt8 := Lib.trimLeftB l 48
def natC (a b : Nat) : Int := if a < b then -1 else if b < a then 1 else 0
def numC (a b : List UInt8) : Int := if (stripL a).length ≠ (stripL b).length then natC (stripL a).length (stripL b).length else if stripL a ≠ stripL b then (if Go.Op.bytesLess (stripL a) (stripL b) then -1 else 1) else natC a.length b.length
def cmpF : Nat → List UInt8 → List UInt8 → Int
 | 0, _, _ => 0
 | _ + 1, [], [] => 0
 | _ + 1, [], _ :: _ => -1
 | _ + 1, _ :: _, [] => 1
 | k + 1, x :: a, y :: b => if isDg x.toNat && isDg y.toNat then (if numC ((x :: a).take (runN (x :: a))) ((y :: b).take (runN (y :: b))) ≠ 0 then numC ((x :: a).take (runN (x :: a))) ((y :: b).take (runN (y :: b))) else cmpF k ((x :: a).drop (runN (x :: a))) ((y :: b).drop (runN (y :: b)))) else if x ≠ y then natC x.toNat y.toNat else cmpF k a b
def cmpN (a b : List UInt8) : Int := cmpF (a.length + 1) a b
theorem runN_le : ∀ l : List UInt8, runN l ≤ l.length
 | [] => Nat.le_refl _
 | c :: l => by
  have := runN_le l
  unfold runN
  split <;> simp <;> omega
theorem runN_pos {c : UInt8} {l : List UInt8} (h : isDg c.toNat = true) : 0 < runN (c :: l) := by
 unfold runN
 rw [if_pos h]
 omega
theorem cmpF_fuel : ∀ (k j : Nat) (a b : List UInt8), a.length < k → a.length < j → cmpF k a b = cmpF j a b
 | 0, _, _, _, h, _ => absurd h (Nat.not_lt_zero _)
 | _ + 1, 0, _, _, _, h => absurd h (Nat.not_lt_zero _)
 | k + 1, j + 1, [], [], _, _ => rfl
 | k + 1, j + 1, [], _ :: _, _, _ => rfl
 | k + 1, j + 1, _ :: _, [], _, _ => rfl
 | k + 1, j + 1, x :: a, y :: b, hk, hj => by
  simp only [List.length_cons] at hk hj
  unfold cmpF
  by_cases hd : (isDg x.toNat && isDg y.toNat) = true
  ·rw [if_pos hd, if_pos hd]
   have hx : isDg x.toNat = true := (Bool.and_eq_true_iff.1 hd).1
   have h1 := runN_pos (l := a) hx
   have h2 := runN_le (x :: a)
   simp only [List.length_cons] at h2
   rw [cmpF_fuel k j _ _ (by simp only [List.length_drop, List.length_cons]; omega) (by simp only [List.length_drop, List.length_cons]; omega)]
  ·rw [if_neg hd, if_neg hd, cmpF_fuel k j a b (by omega) (by omega)]
theorem cmpN_nil : cmpN [] [] = 0 := rfl
theorem cmpN_short {y : UInt8} {b : List UInt8} : cmpN [] (y :: b) = -1 := rfl
theorem cmpN_long {x : UInt8} {a : List UInt8} : cmpN (x :: a) [] = 1 := rfl
theorem cmpN_num {x y : UInt8} {a b : List UInt8} (hx : isDg x.toNat = true) (hy : isDg y.toNat = true) (h : numC ((x :: a).take (runN (x :: a))) ((y :: b).take (runN (y :: b))) ≠ 0) : cmpN (x :: a) (y :: b) = numC ((x :: a).take (runN (x :: a))) ((y :: b).take (runN (y :: b))) := by
 unfold cmpN cmpF
 rw [if_pos (by rw [hx, hy]; rfl), if_pos h]
theorem cmpN_nums {x y : UInt8} {a b : List UInt8} (hx : isDg x.toNat = true) (hy : isDg y.toNat = true) (h : numC ((x :: a).take (runN (x :: a))) ((y :: b).take (runN (y :: b))) = 0) : cmpN (x :: a) (y :: b) = cmpN ((x :: a).drop (runN (x :: a))) ((y :: b).drop (runN (y :: b))) := by
 unfold cmpN
 rw [cmpF, if_pos (by rw [hx, hy]; rfl), if_neg (by rw [h]; simp)]
 have h1 := runN_pos (l := a) hx
 have h2 := runN_le (x :: a)
 simp only [List.length_cons] at h2
 exact cmpF_fuel _ _ _ _ (by simp only [List.length_drop, List.length_cons]; omega) (by omega)
theorem cmpN_byte {x y : UInt8} {a b : List UInt8} (hd : (isDg x.toNat && isDg y.toNat) = false) (h : x ≠ y) : cmpN (x :: a) (y :: b) = natC x.toNat y.toNat := by
 unfold cmpN cmpF
 rw [if_neg (by simp [hd]), if_pos h]
theorem cmpN_bytes {x : UInt8} {a b : List UInt8} (hd : isDg x.toNat = false) : cmpN (x :: a) (x :: b) = cmpN a b := by
 unfold cmpN
 rw [cmpF, if_neg (by simp [hd]), if_neg (by simp)]
 exact cmpF_fuel _ _ _ _ (by simp only [List.length_cons]; omega) (by omega)
theorem u8_ne {x y : UInt8} (h : x ≠ y) : x.toNat ≠ y.toNat := fun e => h (UInt8.toNat_inj.1 e)
def numK (a : List UInt8) : List Nat := 48 :: (stripL a).length :: ((stripL a).map UInt8.toNat ++ [a.length])
def keyF : Nat → List UInt8 → List Nat
 | 0, _ => []
 | _ + 1, [] => []
 | k + 1, x :: a => if isDg x.toNat then numK ((x :: a).take (runN (x :: a))) ++ keyF k ((x :: a).drop (runN (x :: a))) else x.toNat :: keyF k a
def key (a : List UInt8) : List Nat := keyF (a.length + 1) a
theorem natC_ne {a b : Nat} (h : a ≠ b) : natC a b = if a < b then -1 else 1 := by
 unfold natC
 by_cases h1 : a < b
 ·rw [if_pos h1, if_pos h1]
 ·rw [if_neg h1, if_neg h1, if_pos (by omega)]
inductive VT where
 | base (k : Nat)
 | of (k : Nat) (e : VT)
 deriving DecidableEq
namespace VT
def kind : VT → Nat
 | base k => k
 | of k _ => k
end VT
end Go.Proofs.YtgdapkglofchjaaGreatDoor
namespace Go.Proofs.YtgdapkglofchjaaGreatDoor
inductive Ty where
 | mk (kind : Int) (elem : List Ty)
namespace Ty
def kind : Ty → Int
 | mk k _ => k
end Ty
end Go.Proofs.YtgdapkglofchjaaGreatDoor
namespace Go.Proofs.YtgdapkglofchjaaGreatDoor
inductive Vl where
 | mk (kind : Int) (bool : Bool) (int : Int) (str : ByteArray) (list : List Vl) (keys : List ByteArray)
namespace Vl
def kind : Vl → Int
 | mk k _ _ _ _ _ => k
def bool : Vl → Bool
 | mk _ b _ _ _ _ => b
def int : Vl → Int
 | mk _ _ i _ _ _ => i
def str : Vl → ByteArray
 | mk _ _ _ s _ _ => s
def list : Vl → List Vl
 | mk _ _ _ _ l _ => l
def keys : Vl → List ByteArray
 | mk _ _ _ _ _ k => k
end Vl
def unusedV (v : Vl) : Bool := (v.kind == 1 || !v.bool) && ((v.kind == 2 || v.int == 0) && ((v.kind == 3 || v.str.size == 0) && ((v.kind == 4 || v.kind == 5 || v.list.length == 0) && (v.kind == 5 || v.keys.length == 0))))
def ascK : Option ByteArray → List ByteArray → Bool
  | _, [] => true
  | p, k :: r => decide (1 ≤ k.size) && (decide (k.size ≤ 64) && ((match p with
    | none => true
    | some q => decide (cmpN q.data.toList k.data.toList < 0)) && ascK (some k) r))
def keyedV (v : Vl) : Bool := decide (v.keys.length = v.list.length) && ascK none v.keys
def ownV (f : Nat) (v : Vl) : Int :=
 if f = 0 then 13
 else if v.kind < 0 ∨ 5 < v.kind ∨ unusedV v = false then 1
 else if v.int < -9007199254740992 ∨ 9007199254740992 < v.int then 2
 else if 4096 < v.str.size ∨ 1024 < v.list.length ∨ 1024 < v.keys.length then 3
 else if v.kind = 5 ∧ keyedV v = false then 1
 else if (v.kind = 4 ∨ v.kind = 5) ∧ v.list.length = 0 ∧ f = 1 then 13
 else 0
def firstE : List Int → Int
 | [] => 0
 | e :: r => if e ≠ 0 then e else firstE r
def chkV : Nat → Vl → Int
 | 0, _ => 13
 | f + 1, v => if ownV (f + 1) v ≠ 0 then ownV (f + 1) v else firstE (v.list.map (chkV f))
def validV (v : Vl) : Int := chkV 16 v
theorem firstE_zero : ∀ {l : List Int}, firstE l = 0 → ∀ e ∈ l, e = 0
 | [], _, _, h => by cases h
 | e :: r, h, x, hx => by
  unfold firstE at h
  split at h
  ·rename_i hn; exact absurd h hn
  ·rename_i hn
   rcases List.mem_cons.1 hx with rfl | hx
   ·simpa using hn
   ·exact firstE_zero h x hx
end Go.Proofs.YtgdapkglofchjaaGreatDoor
namespace Go.Proofs.YtgdapkglofchjaaGreatDoor
def DeepV : Nat → Vl → Prop
 | 0, _ => False
 | g + 1, v => ∀ x ∈ v.list, DeepV g x
def nextL (l : Int) : Int := IntKind.i64.wrap (l + 1)
def nodesF : Nat → Int → Vl → List (Int × Vl)
 | 0, _, _ => []
 | g + 1, l, v => (l, v) :: (v.list.map (nodesF g (nextL l))).flatten
def nodeE (x : Int × Vl) : Int := ownV (17 - x.1).toNat x.2
theorem firstE_append (a b : List Int) : firstE (a ++ b) = if firstE a ≠ 0 then firstE a else firstE b := by
 induction a with
 | nil => rfl
 | cons x a ih =>
  show (if x ≠ 0 then x else firstE (a ++ b)) = if (if x ≠ 0 then x else firstE a) ≠ 0 then (if x ≠ 0 then x else firstE a) else firstE b
  by_cases hx : x ≠ 0
  ·rw [if_pos hx, if_pos hx, if_pos hx]
  ·rw [if_neg hx, if_neg hx, ih]
theorem firstE_flat (l : List (List Int)) : firstE l.flatten = firstE (l.map firstE) := by
 induction l with
 | nil => rfl
 | cons a l ih =>
  rw [List.flatten_cons, firstE_append, List.map_cons, ih]
  rfl
theorem ownV_zero (v : Vl) : ownV 0 v = 13 := by unfold ownV; rw [if_pos rfl]
theorem nodes_chk : ∀ (g : Nat) (l : Int) (v : Vl), DeepV g v → 1 ≤ l → l ≤ 17 → firstE ((nodesF g l v).map nodeE) = chkV (17 - l).toNat v
 | 0, _, _, h, _, _ => h.elim
 | g + 1, l, v, h, h1, h2 => by
  show (if nodeE (l, v) ≠ 0 then nodeE (l, v) else firstE (((v.list.map (nodesF g (nextL l))).flatten).map nodeE)) = _
  have hn : nodeE (l, v) = ownV (17 - l).toNat v := rfl
  rw [hn]
  by_cases h17 : l = 17
  ·subst h17
   rw [show (17 - 17 : Int).toNat = 0 from rfl, ownV_zero, if_pos (by decide)]
   rfl
  ·have hnx : nextL l = l + 1 := IntWalk.i64_in _ (by omega)
   obtain ⟨f, hf⟩ : ∃ f, (17 - l).toNat = f + 1 := ⟨(17 - l).toNat - 1, by omega⟩
   have hf2 : (17 - (l + 1)).toNat = f := by omega
   rw [hf]
   unfold chkV
   by_cases ho : ownV (f + 1) v ≠ 0
   ·rw [if_pos ho, if_pos ho]
   ·rw [if_neg ho, if_neg ho, List.map_flatten, firstE_flat, List.map_map, List.map_map, hnx]
    congr 1
    refine List.map_congr_left fun x hx => ?_
    show firstE ((nodesF g (l + 1) x).map nodeE) = _
    rw [nodes_chk g (l + 1) x (h x hx) (by omega) (by omega), hf2]
theorem nodes_valid {g : Nat} {v : Vl} (h : DeepV g v) : firstE ((nodesF g 1 v).map nodeE) = validV v := nodes_chk g 1 v h (by decide) (by decide)
theorem firstE_pre {a b : List Int} (h : ∀ x ∈ a, x = 0) : firstE (a ++ b) = firstE b := by
 induction a with
 | nil => rfl
 | cons x a ih =>
  have hx := h x (List.mem_cons_self ..)
  subst hx
  show (if (0 : Int) ≠ 0 then 0 else firstE (a ++ b)) = _
  rw [if_neg (by decide)]
  exact ih fun y hy => h y (List.mem_cons_of_mem _ hy)
theorem firstE_all {a : List Int} (h : ∀ x ∈ a, x = 0) : firstE a = 0 := by
 have := firstE_pre (b := []) h
 rw [List.append_nil] at this
 exact this
theorem firstE_hit {a b : List Int} {e : Int} (h : ∀ x ∈ a, x = 0) (he : e ≠ 0) : firstE (a ++ e :: b) = e := by
 rw [firstE_pre h]
 show (if e ≠ 0 then e else firstE b) = e
 rw [if_pos he]
end Go.Proofs.YtgdapkglofchjaaGreatDoor
namespace Go.Proofs.YtgdapkglofchjaaGreatDoor
open Go.RowKit
def RV (w : World) (S : Nat → Prop) : VT → List Value → Prop
 | .base k, cs => ∃ A c, cs = [.int .i64 (k : Int), .slice A 0 c] ∧ (A = none → c = 0)
 | .of k e, cs => ∃ b o c ds, cs = [.int .i64 (k : Int), .slice (some ⟨b, o, none⟩) 1 c] ∧ 1 ≤ c ∧ S b ∧ (∀ j u, ds[j]? = some u → w.cell? ⟨b, o + j, none⟩ = some u) ∧ RV w S e ds
theorem RV.map {w w' : World} {S S' : Nat → Prop} (hk : ∀ p : Addr, S p.block → w'.cell? p = w.cell? p) (hS : ∀ b, S b → S' b) : ∀ {v : VT} {cs : List Value}, RV w S v cs → RV w' S' v cs
 | .base _, _, h => h
 | .of k e, _, ⟨b, o, c, ds, h1, h2, h3, h4, h5⟩ => ⟨b, o, c, ds, h1, h2, hS b h3, fun j u hu => (hk ⟨b, o + j, none⟩ h3).trans (h4 j u hu), RV.map hk hS h5⟩
abbrev RVB (w : World) (B : Nat) (v : VT) (cs : List Value) : Prop := RV w (fun b => b < B) v cs
theorem RVB.below {w w' : World} {B : Nat} {v : VT} {cs : List Value} (h : RVB w B v cs) (hb : Below B w w') : RVB w' B v cs := h.map (fun _ hp => hb.cell hp) fun _ h => h
theorem RV.form {w : World} {S : Nat → Prop} : ∀ {v : VT} {cs : List Value}, RV w S v cs → ∃ A n c, cs = [.int .i64 (v.kind : Int), .slice A n c]
 | .base k, _, ⟨A, c, h, _⟩ => ⟨A, 0, c, h⟩
 | .of k e, _, ⟨b, o, c, ds, h, _⟩ => ⟨_, 1, c, h⟩
theorem RV.len {w : World} {S : Nat → Prop} {v : VT} {cs : List Value} (h : RV w S v cs) : cs.length = 2 := by
 obtain ⟨A, n, c, rfl⟩ := h.form
 rfl
def RVl : Nat → Rd Vl
 | 0 => fun _ _ _ _ => False
 | f + 1 => fun w S v cs => ∃ A c A2 c2, cs = [.int .i64 v.kind, .bool v.bool, .int .i64 v.int, .string v.str, .slice A v.list.length c, .slice A2 v.keys.length c2] ∧ RSlice (RVl f) 6 w S A v.list.length c v.list ∧ SeqP w S 1 A2 v.keys.length (v.keys.map Value.string) ∧ v.list.length ≤ 9223372036854775807
theorem RVl_ok : ∀ f, RdOk (RVl f)
 | 0 => fun _ _ _ _ _ _ _ _ h => h.elim
 | f + 1 => by
  rintro w w' S S' t cs hk hS ⟨A, c, A2, c2, rfl, ⟨h1, h2, h3, ds, h4, h5⟩, h6, h7⟩
  exact ⟨A, c, A2, c2, rfl, ⟨h1, h2, h3, ds, h4.map hk hS, RList.map (fun x ds' hd => RVl_ok f w w' S S' x ds' hk hS hd) h5⟩, h6.map hk hS, h7⟩
theorem vl_open {g : Nat} {v : Vl} {w : World} {S : Nat → Prop} {k i : Int} {b : Bool} {s : ByteArray} {A A2 : Option Addr} {n c n2 c2 : Nat} (h : RVl g w S v [.int .i64 k, .bool b, .int .i64 i, .string s, .slice A n c, .slice A2 n2 c2]) :
  ∃ j l ks, g = j + 1 ∧ v = .mk k b i s l ks ∧ n = l.length ∧ n2 = ks.length ∧ RSlice (RVl j) 6 w S A n c l ∧ SeqP w S 1 A2 n2 (ks.map Value.string) ∧ n ≤ 9223372036854775807 := by
 cases g with
 | zero => exact h.elim
 | succ j =>
  obtain ⟨k', b', i', s', l, ks⟩ := v
  obtain ⟨A', c', A2', c2', h1, h2, h3, h4⟩ := h
  injection h1 with e1 h1
  injection h1 with e2 h1
  injection h1 with e3 h1
  injection h1 with e4 h1
  injection h1 with e5 h1
  injection h1 with e6 h1
  injection e1 with _ e1
  injection e2 with e2
  injection e3 with _ e3
  injection e4 with e4
  injection e5 with e5 e7 e8
  injection e6 with e6 e9 e10
  subst e5 e8 e6 e10
  have e1 : k = k' := e1
  have e2 : b = b' := e2
  have e3 : i = i' := e3
  have e4 : s = s' := e4
  subst e1 e2 e3 e4
  have e7 : n = l.length := e7
  have e9 : n2 = ks.length := e9
  subst e7 e9
  exact ⟨j, l, ks, rfl, rfl, rfl, rfl, h2, h3, h4⟩
theorem vl_form {g : Nat} {v : Vl} {w : World} {S : Nat → Prop} {cs : List Value} (h : RVl g w S v cs) : ∃ k b i s A n c A2 n2 c2, cs = [.int .i64 k, .bool b, .int .i64 i, .string s, .slice A n c, .slice A2 n2 c2] := by
 cases g with
 | zero => exact h.elim
 | succ j =>
  obtain ⟨A', c', A2', c2', h1, _⟩ := h
  exact ⟨_, _, _, _, _, _, _, _, _, _, h1⟩
theorem RVl.at_ {g : Nat} {v : Vl} {w w' : World} {cs : List Value} (h : RVl g w (fun b => b < w.heap.size) v cs) (hb : Below w.heap.size w w') : RVl g w' (fun b => b < w'.heap.size) v cs :=
 RVl_ok g _ _ _ _ _ _ (fun _ hp => hb.cell hp) (fun _ hp => Nat.lt_of_lt_of_le hp hb.size) h
def strL : Flds → List ByteArray
 | .nil => []
 | .cons _ _ s _ r => s :: strL r
def vlL : Flds → List Vl
 | .nil => []
 | .cons _ _ _ (.cons _ k _ _ (.cons _ b _ _ (.cons _ i _ _ (.cons _ _ s _ (.cons _ _ _ l (.cons _ _ _ ks _)))))) r => .mk k (decide (b = 1)) i s (vlL l) (strL ks) :: vlL r
 | .cons _ _ _ _ r => .mk 0 false 0 ByteArray.empty [] [] :: vlL r
def vl1 (f : FV) : Vl := (vlL (ofL [f])).headD (.mk 0 false 0 ByteArray.empty [] [])
theorem strL_map : ∀ l : List FV, strL (ofL l) = l.map (·.2.2.1)
 | [] => rfl
 | f :: l => by rw [ofL, strL, strL_map l]; rfl
theorem vlL_one (k x : Int) (s : ByteArray) (sub r : Flds) : vlL (.cons k x s sub r) = vl1 (k, x, s, sub) :: vlL r := by
 unfold vl1 ofL
 rw [vlL.eq_def, vlL.eq_def (.cons k x s sub (ofL []))]
 split
 ·rename_i h; cases h
 ·rename_i h
  injection h with h1 h2 h3 h4 h5
  subst h4 h5
  rfl
 ·rename_i h1 h2
  injection h2 with e1 e2 e3 e4 e5
  subst e1 e2 e3 e4 e5
  split
  ·rename_i h3; cases h3
  ·rename_i h3
   injection h3 with _ _ _ e4 _
   subst e4
   exact (h1 _ _ _ _ _ _ _ _ _ _ _ _ _ _ _ _ _ _ _ _ _ _ _ _ _ rfl).elim
  ·rfl
theorem vlL_map : ∀ l : List FV, vlL (ofL l) = l.map vl1
 | [] => rfl
 | f :: l => by rw [ofL, vlL_one, vlL_map l]; rfl
theorem vl1_mk (k b i : Int) (s : ByteArray) (l ks : List FV) : vl1 (fL [fI k, fI b, fI i, fS s, fL l, fL ks]) = .mk k (decide (b = 1)) i s (l.map vl1) (ks.map (·.2.2.1)) := by
 rw [← vlL_map, ← strL_map]; rfl
theorem rl_strs {w : World} {S : Nat → Prop} : ∀ {l : List FV} {cs : List Value}, RList Cod.str.rp 1 w S l cs → cs = (l.map (·.2.2.1)).map Value.string
 | [], _, h => by cases h; rfl
 | f :: l, cs, h => by
  obtain ⟨c1, c2, h1, _, ⟨s, h2, h3⟩, h4⟩ := h
  subst h1 h2 h3
  rw [rl_strs h4]; rfl
theorem rl_vals {w : World} {S : Nat → Prop} {r : Rd Vl} {C : Cod} (hc : ∀ f cs, C.rp w S f cs → fsz f ≤ 1000000000 → r w S (vl1 f) cs) : ∀ {l : List FV} {cs : List Value}, RList C.rp 6 w S l cs → (∀ f ∈ l, fsz f ≤ 1000000000) → RList r 6 w S (l.map vl1) cs
 | [], _, h, _ => h
 | f :: l, _, ⟨c1, c2, h1, h2, h3, h4⟩, hs => ⟨c1, c2, h1, h2, hc _ _ h3 (hs f (by simp)), rl_vals hc h4 (fun g hg => hs g (by simp [hg]))⟩
theorem val_rvl : ∀ (n : Nat) (w : World) (S : Nat → Prop) (f : FV) (cs : List Value), (Cod.val n).rp w S f cs → fsz f ≤ 1000000000 → RVl n w S (vl1 f) cs
 | 0, _, _, _, _, h, _ => h.elim
 | n + 1, w, S, f, cs, ⟨fs, h0, h⟩, hs => by
  subst h0
  obtain ⟨f1, r1, k1, d1, rfl, rfl, ⟨k, hk, rfl, rfl⟩, h⟩ := h
  obtain ⟨f2, r2, k2, d2, rfl, rfl, ⟨b, rfl, rfl⟩, h⟩ := h
  obtain ⟨f3, r3, k3, d3, rfl, rfl, ⟨i, hi, rfl, rfl⟩, h⟩ := h
  obtain ⟨f4, r4, k4, d4, rfl, rfl, ⟨s, rfl, rfl⟩, h⟩ := h
  obtain ⟨f5, r5, k5, d5, rfl, rfl, ⟨l, A, c, rfl, rfl, hl⟩, h⟩ := h
  obtain ⟨f6, r6, k6, d6, rfl, rfl, ⟨ks, A2, c2, rfl, rfl, hks⟩, h⟩ := h
  obtain ⟨rfl, rfl⟩ := h
  have e : vl1 (fL [fI k, fI (if b then 1 else 0), fI i, fS s, fL l, fL ks]) = .mk k b i s (l.map vl1) (ks.map (·.2.2.1)) := by
   rw [vl1_mk]
   cases b <;> rfl
  rw [fsz_fL] at hs
  have hsl : fsz (fL l) < lsz [fI k, fI (if b then 1 else 0), fI i, fS s, fL l, fL ks] := fsz_mem (by simp)
  rw [fsz_fL] at hsl
  have hll := lsz_length l
  rw [e]
  refine ⟨A, c, A2, c2, ?_, ?_, ?_, ?_⟩
  ·simp [Vl.kind, Vl.bool, Vl.int, Vl.str, Vl.list, Vl.keys]
  ·show RSlice (RVl n) 6 w S A (l.map vl1).length c (l.map vl1)
   obtain ⟨g1, g2, g3, ds, g4, g5⟩ := hl
   rw [Cod.val_sz] at g4 g5
   rw [List.length_map]
   exact ⟨by rw [List.length_map], g2, g3, ds, g4, rl_vals (fun f cs hf hsf => val_rvl n w S f cs hf hsf) g5 (fun x hx => by have := fsz_mem hx; omega)⟩
  ·show SeqP w S 1 A2 (ks.map (·.2.2.1)).length ((ks.map (·.2.2.1)).map Value.string)
   obtain ⟨g1, g2, g3, ds, g4, g5⟩ := hks
   have := rl_strs g5
   rw [this] at g4
   rw [List.length_map]
   exact g4
  ·show (l.map vl1).length ≤ _
   rw [List.length_map]; omega
def varV (x : FV) : Int := match toL x.2.2.2 with
 | [_, v] => validV (vl1 v)
 | _ => 0
def argsV (fs : List FV) : Int := firstE ((toL (fs.getD 10 (fI 0)).2.2.2).map varV)
def validF (fs : List FV) : Int :=
 if (fs.getD 0 (fI 0)).2.1 < 1 ∨ 15 < (fs.getD 0 (fI 0)).2.1 then 1
 else if (fs.getD 1 (fI 0)).2.1 < 0 ∨ 1125899906842624 < (fs.getD 1 (fI 0)).2.1 then 2
 else if eqF (ofL (restF (fs.getD 0 (fI 0)).2.1.toNat fs)) (ofL zeroFs) = false then 1
 else argsV fs
theorem varV_mk (a v : FV) : varV (fL [a, v]) = validV (vl1 v) := by unfold varV; simp only [toL_ofL]
def ClnL : Flds → Prop
 | .nil => True
 | .cons k x s sub r => (k = 0 ∧ s = ByteArray.empty ∧ sub = .nil ∨ k = 1 ∧ x = 0 ∧ sub = .nil ∨ k = 2 ∧ x = 0 ∧ s = ByteArray.empty) ∧ ClnL sub ∧ ClnL r
abbrev Cln (l : List FV) : Prop := ClnL (ofL l)
theorem Cln.head {f : FV} {l : List FV} (h : Cln (f :: l)) : ((∃ x, f = fI x) ∨ (∃ s, f = fS s) ∨ (∃ m, f = fL m ∧ Cln m)) ∧ Cln l := by
 obtain ⟨k, x, s, sub⟩ := f
 obtain ⟨h1, h2, h3⟩ := h
 refine ⟨?_, h3⟩
 simp only at h1 h2
 rcases h1 with ⟨rfl, rfl, rfl⟩ | ⟨rfl, rfl, rfl⟩ | ⟨rfl, rfl, rfl⟩
 ·exact Or.inl ⟨x, rfl⟩
 ·exact Or.inr (Or.inl ⟨s, rfl⟩)
 ·exact Or.inr (Or.inr ⟨toL sub, by show _ = (2, 0, ByteArray.empty, ofL (toL sub)); rw [ofL_toL], by show ClnL (ofL (toL sub)); rw [ofL_toL]; exact h2⟩)
theorem cln_of_fine : ∀ (f : Flds) (d : Nat), Fine d f → ClnL f
 | .nil, _, _ => trivial
 | .cons k x s sub r, d, h => by
  have h1 : vone d k x s sub = 0 := Fine.one (f := .cons k x s sub r) (i := 0) h rfl
  obtain ⟨_, hc, hs⟩ := vone_fine h1
  have hr : Fine d r := by
   unfold Fine at h ⊢
   rw [vld_cons, if_pos h1] at h
   exact h
  refine ⟨?_, cln_of_fine sub _ hs, cln_of_fine r d hr⟩
  have hn : ∀ f : Flds, (f.length : Int) == 0 → f = .nil := fun f hf => by
   cases f with
   | nil => rfl
   | cons => simp [Flds.length] at hf; omega
  have hz : ∀ s : ByteArray, s.toList.isEmpty = true → s = ByteArray.empty := fun s hs => ba_eq (by rw [empty_toList]; simpa using hs)
  unfold clean at hc
  by_cases k0 : k = 0
  ·rw [if_pos k0] at hc
   simp only [Bool.and_eq_true] at hc
   exact Or.inl ⟨k0, hz s hc.1, hn sub hc.2⟩
  ·by_cases k1 : k = 1
   ·rw [if_neg k0, if_pos k1] at hc
    simp only [Bool.and_eq_true, beq_iff_eq] at hc
    exact Or.inr (Or.inl ⟨k1, hc.1, hn sub (by simpa using hc.2)⟩)
   ·by_cases k2 : k = 2
    ·rw [if_neg k0, if_neg k1, if_pos k2] at hc
     simp only [Bool.and_eq_true, beq_iff_eq] at hc
     exact Or.inr (Or.inr ⟨k2, hc.1, hz s hc.2⟩)
    ·rw [if_neg k0, if_neg k1, if_neg k2] at hc; cases hc
def fitI (f : FV) : Prop := f.1 = 0
def fitB (f : FV) : Prop := f.1 = 0 ∧ (f.2.1 = 0 ∨ f.2.1 = 1)
def fitS (f : FV) : Prop := f.1 = 1
def fitL (P : FV → Prop) (f : FV) : Prop := f.1 = 2 ∧ ∀ x ∈ toL f.2.2.2, P x
def FitL : List (FV → Prop) → List FV → Prop
 | [], [] => True
 | P :: Ps, f :: fs => P f ∧ FitL Ps fs
 | _, _ => False
def fitR (Ps : List (FV → Prop)) (f : FV) : Prop := f.1 = 2 ∧ FitL Ps (toL f.2.2.2)
inductive FitV : FV → Prop
 | mk (x : Int) (s : ByteArray) (a b c d e g : FV) (ha : fitI a) (hb : fitB b) (hc : fitI c) (hd : fitS d) (he : e.1 = 2) (hl : ∀ y ∈ toL e.2.2.2, FitV y) (hg : fitL fitS g) : FitV (2, x, s, ofL [a, b, c, d, e, g])
theorem fitL_mk {P : FV → Prop} {m : List FV} : fitL P (fL m) ↔ ∀ x ∈ m, P x := by unfold fitL; simp only [toL_ofL, true_and]
theorem fitR_mk {Ps : List (FV → Prop)} {m : List FV} : fitR Ps (fL m) ↔ FitL Ps m := by unfold fitR; simp only [toL_ofL, true_and]
theorem fitV_mk {m : List FV} : FitV (fL m) ↔ FitL [fitI, fitB, fitI, fitS, fitL FitV, fitL fitS] m := by
 constructor
 ·intro h
  generalize hf : fL m = f at h
  cases h with
  | mk x s a b c d e g ha hb hc hd he hl hg =>
   have : m = [a, b, c, d, e, g] := ofL_inj (congrArg (fun f : FV => f.2.2.2) hf)
   subst this
   exact ⟨ha, hb, hc, hd, ⟨he, hl⟩, hg, trivial⟩
 ·intro h
  match m, h with
  | [a, b, c, d, e, g], ⟨ha, hb, hc, hd, ⟨he, hl⟩, hg, _⟩ => exact FitV.mk 0 ByteArray.empty a b c d e g ha hb hc hd he hl hg
theorem fitV_kind {f : FV} (h : FitV f) : f.1 = 2 := by cases h; rfl
structure Chg (w w' : World) (g b lo hi : Nat) : Prop where
 os : w'.os = w.os
 tape : w'.tape = w.tape
 output : w'.output = w.output
 size : w.heap.size ≤ w'.heap.size
 block : ∀ k, k < w.heap.size → k ≠ g → k ≠ b → w'.heap[k]? = w.heap[k]?
 out : ∀ o, o < lo ∨ hi ≤ o → w'.cell? ⟨b, o, none⟩ = w.cell? ⟨b, o, none⟩
 fr : ∀ o, w'.frozen? ⟨b, o, none⟩ = w.frozen? ⟨b, o, none⟩
section
variable {w w' w2 : World} {g gi b lo hi lo' hi' : Nat}
theorem Chg.refl (w : World) (g b lo hi : Nat) : Chg w w g b lo hi := ⟨rfl, rfl, rfl, Nat.le_refl _, fun _ _ _ _ => rfl, fun _ _ => rfl, fun _ => rfl⟩
theorem Chg.trans (h : Chg w w' g b lo hi) (k : Chg w' w2 gi b lo' hi') (hg : gi = g ∨ w.heap.size ≤ gi) (h1 : lo ≤ lo') (h2 : hi' ≤ hi) : Chg w w2 g b lo hi :=
 ⟨k.os.trans h.os, k.tape.trans h.tape, k.output.trans h.output, Nat.le_trans h.size k.size,
  fun j hj a c => (k.block j (Nat.lt_of_lt_of_le hj h.size) (fun e => by rcases hg with hg | hg <;> omega) c).trans (h.block j hj a c),
  fun o ho => (k.out o (by omega)).trans (h.out o ho), fun o => (k.fr o).trans (h.fr o)⟩
theorem Chg.of_grown (h : w.grownBy w' (some g)) (hb : b < w.heap.size) (hne : b ≠ g) : Chg w w' g b lo hi :=
 ⟨h.os, h.tape, h.output, h.size, fun k hk a _ => h.block k hk (fun e => a (by injection e)), fun o _ => World.cell?_of_block (h.block b hb (fun e => hne (by injection e))), fun o => World.frozen?_of_block (h.block b hb (fun e => hne (by injection e)))⟩
theorem Chg.of_below (h : Below w.heap.size w w') (hb : b < w.heap.size) : Chg w w' g b lo hi :=
 ⟨h.os, h.tape, h.output, h.size, fun k hk _ _ => h.block k hk, fun o _ => h.cell (p := ⟨b, o, none⟩) hb, fun o => h.frozen (p := ⟨b, o, none⟩) hb⟩
theorem Chg.cell (h : Chg w w' g b lo hi) {p : Addr} (hp : p.block < w.heap.size) (h1 : p.block ≠ g) (h2 : p.block ≠ b) : w'.cell? p = w.cell? p := World.cell?_of_block (h.block _ hp h1 h2)
theorem Chg.frozen (h : Chg w w' g b lo hi) {p : Addr} (hp : p.block < w.heap.size) (h1 : p.block ≠ g) (h2 : p.block ≠ b) : w'.frozen? p = w.frozen? p := World.frozen?_of_block (h.block _ hp h1 h2)
theorem Chg.below (h : Chg w w' g b lo hi) {B : Nat} (h1 : B ≤ g) (h2 : B ≤ b) (hB : B ≤ w.heap.size) : Below B w w' := ⟨h.os, h.tape, h.output, h.size, fun k hk => h.block k (by omega) (by omega) (by omega)⟩
theorem Chg.cells (h : Chg w w' g b lo hi) {k : Nat} {cs : List Value} (hc : CellsAt w k cs) (h1 : k ≠ g) (h2 : k ≠ b) : CellsAt w' k cs :=
 ⟨Nat.lt_of_lt_of_le hc.lt h.size, fun j u hu => (h.cell (p := ⟨k, j, none⟩) hc.lt h1 h2).trans (hc.cell j u hu), fun j => (h.frozen (p := ⟨k, j, none⟩) hc.lt h1 h2).trans (hc.fr j)⟩
end
def FSl (w : World) (S : Nat → Prop) (A : Option Addr) (c : Nat) (l : List FV) : Prop := l.length ≤ c ∧ ∃ cs, SeqP w S 4 A l.length cs ∧ RList rF 4 w S l cs
theorem FSl.map {w w' : World} {S S' : Nat → Prop} {A : Option Addr} {c : Nat} {l : List FV} (h : FSl w S A c l) (hk : ∀ p : Addr, S p.block → w'.cell? p = w.cell? p) (hS : ∀ b, S b → S' b) : FSl w' S' A c l := by
 obtain ⟨h1, cs, h2, h3⟩ := h
 exact ⟨h1, cs, h2.map hk hS, RList.map (fun x c hc => rF_ok _ _ _ _ x c hk hS hc) h3⟩
theorem FSl.nil {w : World} {S : Nat → Prop} : FSl w S none 0 [] := ⟨Nat.le_refl _, [], SeqP.nil_, rfl⟩
def CR (W0 w : World) (g : Nat) (l : List FV) (bad : Bool) : Prop := ∃ A c, OwnB W0 w [(g, [.slice A l.length c, .bool true, .bool bad])] ∧ FSl W0 (fun b => b < W0.heap.size) A c l
theorem grown_new {w w1 : World} {row : Option Nat} (h : w.grownBy w1 row) {z o : Nat} (hz : w.heap.size ≤ z) (v : Value) : w.grownBy (w1.setCell ⟨z, o, none⟩ v) row :=
 ⟨h.os, h.tape, h.output, by simpa [World.setCell] using h.size, fun k hk hr => (Below.heap_setCell w1 ⟨z, o, none⟩ v k (by simp only; omega)).trans (h.block k hk hr)⟩
section
variable {W0 w w' : World} {g b lo_ hi_ gi : Nat} {l : List FV} {bad : Bool}
theorem CR.own1 (h : CR W0 w g l bad) : ∃ cs, OwnB W0 w [(g, cs)] := by
 obtain ⟨A, c, h, _⟩ := h
 exact ⟨_, h⟩
theorem CR.lt (h : CR W0 w g l bad) : g < w.heap.size := by
 obtain ⟨cs, h⟩ := h.own1
 exact h.lt 0
theorem CR.lo (h : CR W0 w g l bad) : W0.heap.size ≤ g := by
 obtain ⟨cs, h⟩ := h.own1
 exact h.lo 0
theorem CR.bel (h : CR W0 w g l bad) : Below W0.heap.size W0 w := by
 obtain ⟨cs, h⟩ := h.own1
 exact h.below
theorem CR.keep (h : CR W0 w g l bad) (hb : Below W0.heap.size W0 w') (hg : w'.heap[g]? = w.heap[g]?) (hs : w.heap.size ≤ w'.heap.size) : CR W0 w' g l bad := by
 obtain ⟨A, c, h1, h2⟩ := h
 have hc := (h1.all 0 _ _ rfl).2
 exact ⟨A, c, (OwnB.of hb).push (h1.lo 0) ⟨Nat.lt_of_lt_of_le hc.lt hs, fun j u hu => (World.cell?_of_block (a := ⟨g, j, none⟩) hg).trans (hc.cell j u hu), fun j => (World.frozen?_of_block (a := ⟨g, j, none⟩) hg).trans (hc.fr j)⟩ (fun i b x h => by simp at h), h2⟩
theorem CR.below (h : CR W0 w g l bad) (hb : Below w.heap.size w w') : CR W0 w' g l bad := h.keep (h.bel.trans (hb.mono h.bel.size)) (hb.block g h.lt) hb.size
theorem CR.chg (h : CR W0 w g l bad) (k : Chg w w' gi b lo_ hi_) (h1 : g ≠ gi) (h2 : g ≠ b) (h3 : W0.heap.size ≤ gi) (h4 : W0.heap.size ≤ b) : CR W0 w' g l bad :=
 h.keep (h.bel.trans (k.below h3 h4 h.bel.size)) (k.block g h.lt h1 h2) k.size
theorem CR.grown (h : CR W0 w g l bad) (k : w.grownBy w' (some gi)) (h1 : g ≠ gi) (h3 : W0.heap.size ≤ gi) : CR W0 w' g l bad :=
 h.keep (h.bel.trans ⟨k.os, k.tape, k.output, k.size, fun j hj => k.block j (Nat.lt_of_lt_of_le hj h.bel.size) (fun e => by injection e; omega)⟩) (k.block g h.lt (fun e => h1 (by injection e))) k.size
theorem FSl.head {A : Option Addr} {c : Nat} {f : FV} {r : List FV} (h : FSl W0 (fun b => b < W0.heap.size) A c (f :: r)) : ∃ b o A1 c1, A = some ⟨b, o, none⟩ ∧ b < W0.heap.size ∧ 1 ≤ c ∧ rF W0 (fun b => b < W0.heap.size) f [.int .i64 f.1, .int .i64 f.2.1, .string f.2.2.1, .slice A1 f.2.2.2.length c1] ∧
  W0.cell? ⟨b, o, none⟩ = some (.int .i64 f.1) ∧ W0.cell? ⟨b, o + 1, none⟩ = some (.int .i64 f.2.1) ∧ W0.cell? ⟨b, o + 2, none⟩ = some (.string f.2.2.1) ∧ W0.cell? ⟨b, o + 3, none⟩ = some (.slice A1 f.2.2.2.length c1) := by
 obtain ⟨h1, cs, h2, c1, c2, rfl, hl, hr, _⟩ := h
 obtain ⟨b, o, rfl, hb, hc⟩ := h2.2 (by simp)
 have hr' := hr
 obtain ⟨A1, k1, csub, rfl, _⟩ := hr
 exact ⟨b, o, A1, k1, rfl, hb, by simp at h1; omega, hr', hc 0 _ rfl, hc 1 _ rfl, hc 2 _ rfl, hc 3 _ rfl⟩
theorem FSl.tail {A : Option Addr} {c : Nat} {f : FV} {r : List FV} (h : FSl W0 (fun b => b < W0.heap.size) A c (f :: r)) : FSl W0 (fun b => b < W0.heap.size) (if c = 1 then A else A.map (·.add 4)) (c - 1) r := by
 obtain ⟨h1, cs, h2, h3⟩ := h
 have := Seq.cut (k := 1) h2 (by simp) h1
 refine ⟨by simp at h1; omega, cs.drop 4, ?_, ?_⟩
 ·simpa using this
 ·obtain ⟨c1, c2, rfl, hl, _, h4⟩ := h3
  rw [List.drop_left' hl]
  exact h4
theorem FSl.tail' {b o c : Nat} {f : FV} {r : List FV} (h : FSl W0 (fun b => b < W0.heap.size) (some ⟨b, o, none⟩) c (f :: r)) : FSl W0 (fun b => b < W0.heap.size) (if c = 1 then some ⟨b, o, none⟩ else some ⟨b, o + 4, none⟩) (c - 1) r := by
 have := h.tail
 rw [Option.map_some, Addr.add_mid] at this
 exact this
end
theorem digit_any (c : UInt8) (w : World) : Calls Tryz.prog 157 #[.int .u8 (c.toNat : Int)] w fun e w' => e = .returned (.bool (decide (48 ≤ c.toNat) && decide (c.toNat ≤ 57))) ∧ w' = w := by
 go_enter Tryz.func157, Tryz.ntmps157
 repeat' ((fail_if_success at_builtin); first | go_skip | go_guarded | go_step)
 all_goals go_ret
 all_goals refine ⟨ret_b ?_, rfl⟩
 all_goals rw [Bool.eq_iff_iff]
 all_goals simp
 all_goals omega
theorem str_at {s : ByteArray} {i : Nat} (h : i < s.size) : s.data.toList[i]? = some s[i] := by
 rw [Array.getElem?_toList]
 exact Array.getElem?_eq_getElem h
end Go.Proofs.YtgdapkglofchjaaGreatDoor
