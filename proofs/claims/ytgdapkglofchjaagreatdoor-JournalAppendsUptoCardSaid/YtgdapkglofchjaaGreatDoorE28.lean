/- Joined: JnR2. -/
import Derived.Test.YtgdapkglofchjaaGreatDoorE8
import Derived.Test.YtgdapkglofchjaaGreatDoorE25
import Derived.Test.YtgdapkglofchjaaGreatDoorE27
set_option maxRecDepth 100000
set_option maxHeartbeats 4000000
set_option linter.unusedVariables false
namespace Go.Proofs.YtgdapkglofchjaaGreatDoor
open Go.RowKit
theorem runused_1 (fs : List FV) (E : List Value) (w : World) (h : EvR w fs E) (hk : fs[0]? = some (fI 1)) : Calls Tryz.prog 25 #[.agg E.toArray] w (RetEv w (restF 1 fs)) := by
 have hE0 := ev_head h hk
 have hl := h.len
 have hl16 := (h.rd.len evC_ok).2
 go_enter Tryz.func25, Tryz.ntmps25
 go_upto_region 1 with (fail)
 generalize hx_ : World.alloc (World.alloc w _) _ = w1
 have hO : OwnB w w1 [(w.heap.size + 1, evZ), (w.heap.size, E)] := by rw [← hx_]; exact ((OwnB.refl w).new E.toArray _ (g := w.heap.size)).new evZ.toArray _ (g := w.heap.size + 1)
 clear hx_
 have c0 := hO.c 1 0 rfl hE0
 have c1 := hO.c 1 1 rfl (getD_at hl (j := 1) (by decide))
 have c2 := hO.c 1 2 rfl (getD_at hl (j := 2) (by decide))
 have c4 := hO.c 1 4 rfl (getD_at hl (j := 4) (by decide))
 have c8 := hO.c 1 8 rfl (getD_at hl (j := 8) (by decide))
 have c9 := hO.c 1 9 rfl (getD_at hl (j := 9) (by decide))
 have c10 := hO.c 1 10 rfl (getD_at hl (j := 10) (by decide))
 have c11 := hO.c 1 11 rfl (getD_at hl (j := 11) (by decide))
 have c12 := hO.c 1 12 rfl (getD_at hl (j := 12) (by decide))
 have c13 := hO.c 1 13 rfl (getD_at hl (j := 13) (by decide))
 have cf := hO.fr 1
 go_upto_region 28 with (fail)
 have hO2 : OwnB w (((((((((((w1.setCell ⟨w.heap.size, 0, none⟩ (.int .i64 0)).setCell ⟨w.heap.size, 1, none⟩ (.int .i64 0)).setCell ⟨w.heap.size, 2, none⟩ (.string ⟨#[]⟩)).setCell ⟨w.heap.size, 4, none⟩ (.int .i64 0)).setCell ⟨w.heap.size, 8, none⟩ (.string ⟨#[]⟩)).setCell ⟨w.heap.size, 9, none⟩ (.string ⟨#[]⟩)).setCell ⟨w.heap.size, 10, none⟩ (.string ⟨#[]⟩)).setCell ⟨w.heap.size, 11, none⟩ (.bool false)).setCell ⟨w.heap.size, 12, none⟩ (.slice none 0 0)).setCell ⟨w.heap.size, 13, none⟩ (.slice none 0 0))) [(w.heap.size + 1, evZ), (w.heap.size, setL (setL (setL (setL (setL (setL (setL (setL (E) 0 [.int .i64 0]) 1 [.int .i64 0]) 2 [.string ⟨#[]⟩]) 4 [.int .i64 0]) 8 [.string ⟨#[]⟩]) 9 [.string ⟨#[]⟩, .string ⟨#[]⟩, .bool false]) 12 [.slice none 0 0]) 13 [.slice none 0 0])] := ((((((((((hO.store 1 rfl 0 (.int .i64 0)).store 1 rfl 1 (.int .i64 0)).store 1 rfl 2 (.string ⟨#[]⟩)).store 1 rfl 4 (.int .i64 0)).store 1 rfl 8 (.string ⟨#[]⟩)).store 1 rfl 9 (.string ⟨#[]⟩)).store 1 rfl 10 (.string ⟨#[]⟩)).store 1 rfl 11 (.bool false)).store 1 rfl 12 (.slice none 0 0)).store 1 rfl 13 (.slice none 0 0))
 clear cf c0 c1 c2 c4 c8 c9 c10 c11 c12 c13
 generalize ((((((((((w1.setCell ⟨w.heap.size, 0, none⟩ (.int .i64 0)).setCell ⟨w.heap.size, 1, none⟩ (.int .i64 0)).setCell ⟨w.heap.size, 2, none⟩ (.string ⟨#[]⟩)).setCell ⟨w.heap.size, 4, none⟩ (.int .i64 0)).setCell ⟨w.heap.size, 8, none⟩ (.string ⟨#[]⟩)).setCell ⟨w.heap.size, 9, none⟩ (.string ⟨#[]⟩)).setCell ⟨w.heap.size, 10, none⟩ (.string ⟨#[]⟩)).setCell ⟨w.heap.size, 11, none⟩ (.bool false)).setCell ⟨w.heap.size, 12, none⟩ (.slice none 0 0)).setCell ⟨w.heap.size, 13, none⟩ (.slice none 0 0)) = w2 at *
 have hrd : RecL evC w (fun b => b < w.heap.size) (restF 1 fs) (setL (setL (setL (setL (setL (setL (setL (setL (E) 0 [.int .i64 0]) 1 [.int .i64 0]) 2 [.string ⟨#[]⟩]) 4 [.int .i64 0]) 8 [.string ⟨#[]⟩]) 9 [.string ⟨#[]⟩, .string ⟨#[]⟩, .bool false]) 12 [.slice none 0 0]) 13 [.slice none 0 0]) := by
  have hp := (RecL.put zz11 11 13 evC_ok (RecL.put zz10 10 12 evC_ok (RecL.put zz9 9 9 evC_ok (RecL.put zz8 8 8 evC_ok (RecL.put zz4 4 4 evC_ok (RecL.put zz2 2 2 evC_ok (RecL.put zz1 1 1 evC_ok (RecL.put zz0 0 0 evC_ok h.rd rfl rfl) rfl rfl) rfl rfl) rfl rfl) rfl rfl) rfl rfl) rfl rfl) rfl rfl)
  obtain ⟨a, b, c, d, e, f, g, i, j, k, m, n, o, p, q, r, rfl⟩ := sixteen hl16
  exact hp
 have hl2 := (hrd.len evC_ok).1
 generalize setL (setL (setL (setL (setL (setL (setL (setL (E) 0 [.int .i64 0]) 1 [.int .i64 0]) 2 [.string ⟨#[]⟩]) 4 [.int .i64 0]) 8 [.string ⟨#[]⟩]) 9 [.string ⟨#[]⟩, .string ⟨#[]⟩, .bool false]) 12 [.slice none 0 0]) 13 [.slice none 0 0] = E2 at *
 have hi2 := ev_info (show E2.length = 42 from hl2)
 have hi3 : (Tryz.prog.info? 43).map (·.size) = some E2.toArray.size := by rw [List.size_toArray]; exact hi2
 have h1 := all_oneCell_toArray (hrd.one evC_ok)
 have hR := own_range hO2 1 rfl
 have hT : w2.there (w.heap.size + 1) 0 E2.toArray.size := own_there hO2 0 rfl (by rw [List.size_toArray, show E2.length = 42 from hl2]; decide)
 have hb2 := hO2.below
 have hlt2 := hO2.lt 0
 obtain ⟨o1, o2, o3⟩ := ev_out hb2 hrd hT hlt2
 repeat' (first | (refine wpList_load_mid rfl 43 _ rfl w.heap.size 0 rfl E2 _ hR Tryz.underlying43 rfl hi2 ?_) | (refine wpList_store_mid rfl 43 _ _ rfl (w.heap.size + 1) 0 E2.toArray rfl rfl hT hi3 h1 ?_) | go_skip | go_guarded | go_step)
 refine bodyPost_ret (v := .agg E2.toArray) (run_res_cell 2 43 (w.heap.size + 1) 0 E2 _ rfl rfl o1 Tryz.underlying43 rfl hi2) rfl ?_
 exact ⟨E2, rfl, o2, o3⟩
theorem runused_2 (fs : List FV) (E : List Value) (w : World) (h : EvR w fs E) (hk : fs[0]? = some (fI 2)) : Calls Tryz.prog 25 #[.agg E.toArray] w (RetEv w (restF 2 fs)) := by
 have hE0 := ev_head h hk
 have hl := h.len
 have hl16 := (h.rd.len evC_ok).2
 go_enter Tryz.func25, Tryz.ntmps25
 go_upto_region 1 with (fail)
 generalize hx_ : World.alloc (World.alloc w _) _ = w1
 have hO : OwnB w w1 [(w.heap.size + 1, evZ), (w.heap.size, E)] := by rw [← hx_]; exact ((OwnB.refl w).new E.toArray _ (g := w.heap.size)).new evZ.toArray _ (g := w.heap.size + 1)
 clear hx_
 have c0 := hO.c 1 0 rfl hE0
 have c1 := hO.c 1 1 rfl (getD_at hl (j := 1) (by decide))
 have c2 := hO.c 1 2 rfl (getD_at hl (j := 2) (by decide))
 have c3 := hO.c 1 3 rfl (getD_at hl (j := 3) (by decide))
 have c4 := hO.c 1 4 rfl (getD_at hl (j := 4) (by decide))
 have c5 := hO.c 1 5 rfl (getD_at hl (j := 5) (by decide))
 have c7 := hO.c 1 7 rfl (getD_at hl (j := 7) (by decide))
 have cf := hO.fr 1
 go_upto_region 28 with (fail)
 have hO2 : OwnB w ((((((((w1.setCell ⟨w.heap.size, 0, none⟩ (.int .i64 0)).setCell ⟨w.heap.size, 1, none⟩ (.int .i64 0)).setCell ⟨w.heap.size, 2, none⟩ (.string ⟨#[]⟩)).setCell ⟨w.heap.size, 3, none⟩ (.string ⟨#[]⟩)).setCell ⟨w.heap.size, 4, none⟩ (.int .i64 0)).setCell ⟨w.heap.size, 5, none⟩ (.int .i64 0)).setCell ⟨w.heap.size, 7, none⟩ (.string ⟨#[]⟩))) [(w.heap.size + 1, evZ), (w.heap.size, setL (setL (setL (setL (setL (setL (setL (E) 0 [.int .i64 0]) 1 [.int .i64 0]) 2 [.string ⟨#[]⟩]) 3 [.string ⟨#[]⟩]) 4 [.int .i64 0]) 5 [.int .i64 0]) 7 [.string ⟨#[]⟩])] := (((((((hO.store 1 rfl 0 (.int .i64 0)).store 1 rfl 1 (.int .i64 0)).store 1 rfl 2 (.string ⟨#[]⟩)).store 1 rfl 3 (.string ⟨#[]⟩)).store 1 rfl 4 (.int .i64 0)).store 1 rfl 5 (.int .i64 0)).store 1 rfl 7 (.string ⟨#[]⟩))
 clear cf c0 c1 c2 c3 c4 c5 c7
 generalize (((((((w1.setCell ⟨w.heap.size, 0, none⟩ (.int .i64 0)).setCell ⟨w.heap.size, 1, none⟩ (.int .i64 0)).setCell ⟨w.heap.size, 2, none⟩ (.string ⟨#[]⟩)).setCell ⟨w.heap.size, 3, none⟩ (.string ⟨#[]⟩)).setCell ⟨w.heap.size, 4, none⟩ (.int .i64 0)).setCell ⟨w.heap.size, 5, none⟩ (.int .i64 0)).setCell ⟨w.heap.size, 7, none⟩ (.string ⟨#[]⟩)) = w2 at *
 have hrd : RecL evC w (fun b => b < w.heap.size) (restF 2 fs) (setL (setL (setL (setL (setL (setL (setL (E) 0 [.int .i64 0]) 1 [.int .i64 0]) 2 [.string ⟨#[]⟩]) 3 [.string ⟨#[]⟩]) 4 [.int .i64 0]) 5 [.int .i64 0]) 7 [.string ⟨#[]⟩]) := by
  have hp := (RecL.put zz7 7 7 evC_ok (RecL.put zz5 5 5 evC_ok (RecL.put zz4 4 4 evC_ok (RecL.put zz3 3 3 evC_ok (RecL.put zz2 2 2 evC_ok (RecL.put zz1 1 1 evC_ok (RecL.put zz0 0 0 evC_ok h.rd rfl rfl) rfl rfl) rfl rfl) rfl rfl) rfl rfl) rfl rfl) rfl rfl)
  obtain ⟨a, b, c, d, e, f, g, i, j, k, m, n, o, p, q, r, rfl⟩ := sixteen hl16
  exact hp
 have hl2 := (hrd.len evC_ok).1
 generalize setL (setL (setL (setL (setL (setL (setL (E) 0 [.int .i64 0]) 1 [.int .i64 0]) 2 [.string ⟨#[]⟩]) 3 [.string ⟨#[]⟩]) 4 [.int .i64 0]) 5 [.int .i64 0]) 7 [.string ⟨#[]⟩] = E2 at *
 have hi2 := ev_info (show E2.length = 42 from hl2)
 have hi3 : (Tryz.prog.info? 43).map (·.size) = some E2.toArray.size := by rw [List.size_toArray]; exact hi2
 have h1 := all_oneCell_toArray (hrd.one evC_ok)
 have hR := own_range hO2 1 rfl
 have hT : w2.there (w.heap.size + 1) 0 E2.toArray.size := own_there hO2 0 rfl (by rw [List.size_toArray, show E2.length = 42 from hl2]; decide)
 have hb2 := hO2.below
 have hlt2 := hO2.lt 0
 obtain ⟨o1, o2, o3⟩ := ev_out hb2 hrd hT hlt2
 repeat' (first | (refine wpList_load_mid rfl 43 _ rfl w.heap.size 0 rfl E2 _ hR Tryz.underlying43 rfl hi2 ?_) | (refine wpList_store_mid rfl 43 _ _ rfl (w.heap.size + 1) 0 E2.toArray rfl rfl hT hi3 h1 ?_) | go_skip | go_guarded | go_step)
 refine bodyPost_ret (v := .agg E2.toArray) (run_res_cell 2 43 (w.heap.size + 1) 0 E2 _ rfl rfl o1 Tryz.underlying43 rfl hi2) rfl ?_
 exact ⟨E2, rfl, o2, o3⟩
theorem runused_3 (fs : List FV) (E : List Value) (w : World) (h : EvR w fs E) (hk : fs[0]? = some (fI 3)) : Calls Tryz.prog 25 #[.agg E.toArray] w (RetEv w (restF 3 fs)) := by
 have hE0 := ev_head h hk
 have hl := h.len
 have hl16 := (h.rd.len evC_ok).2
 go_enter Tryz.func25, Tryz.ntmps25
 go_upto_region 1 with (fail)
 generalize hx_ : World.alloc (World.alloc w _) _ = w1
 have hO : OwnB w w1 [(w.heap.size + 1, evZ), (w.heap.size, E)] := by rw [← hx_]; exact ((OwnB.refl w).new E.toArray _ (g := w.heap.size)).new evZ.toArray _ (g := w.heap.size + 1)
 clear hx_
 have c0 := hO.c 1 0 rfl hE0
 have c1 := hO.c 1 1 rfl (getD_at hl (j := 1) (by decide))
 have c2 := hO.c 1 2 rfl (getD_at hl (j := 2) (by decide))
 have c3 := hO.c 1 3 rfl (getD_at hl (j := 3) (by decide))
 have c4 := hO.c 1 4 rfl (getD_at hl (j := 4) (by decide))
 have c5 := hO.c 1 5 rfl (getD_at hl (j := 5) (by decide))
 have c8 := hO.c 1 8 rfl (getD_at hl (j := 8) (by decide))
 have c14 := hO.c 1 14 rfl (getD_at hl (j := 14) (by decide))
 have c15 := hO.c 1 15 rfl (getD_at hl (j := 15) (by decide))
 have c16 := hO.c 1 16 rfl (getD_at hl (j := 16) (by decide))
 have c17 := hO.c 1 17 rfl (getD_at hl (j := 17) (by decide))
 have c18 := hO.c 1 18 rfl (getD_at hl (j := 18) (by decide))
 have c19 := hO.c 1 19 rfl (getD_at hl (j := 19) (by decide))
 have cf := hO.fr 1
 go_upto_region 28 with (fail)
 have hO2 : OwnB w ((((((((((((((w1.setCell ⟨w.heap.size, 0, none⟩ (.int .i64 0)).setCell ⟨w.heap.size, 1, none⟩ (.int .i64 0)).setCell ⟨w.heap.size, 2, none⟩ (.string ⟨#[]⟩)).setCell ⟨w.heap.size, 3, none⟩ (.string ⟨#[]⟩)).setCell ⟨w.heap.size, 4, none⟩ (.int .i64 0)).setCell ⟨w.heap.size, 5, none⟩ (.int .i64 0)).setCell ⟨w.heap.size, 8, none⟩ (.string ⟨#[]⟩)).setCell ⟨w.heap.size, 14, none⟩ (.int .i64 0)).setCell ⟨w.heap.size, 15, none⟩ (.int .i64 0)).setCell ⟨w.heap.size, 16, none⟩ (.slice none 0 0)).setCell ⟨w.heap.size, 17, none⟩ (.slice none 0 0)).setCell ⟨w.heap.size, 18, none⟩ (.slice none 0 0)).setCell ⟨w.heap.size, 19, none⟩ (.string ⟨#[]⟩))) [(w.heap.size + 1, evZ), (w.heap.size, setL (setL (setL (setL (setL (setL (setL (setL (E) 0 [.int .i64 0]) 1 [.int .i64 0]) 2 [.string ⟨#[]⟩]) 3 [.string ⟨#[]⟩]) 4 [.int .i64 0]) 5 [.int .i64 0]) 8 [.string ⟨#[]⟩]) 14 [.int .i64 0, .int .i64 0, .slice none 0 0, .slice none 0 0, .slice none 0 0, .string ⟨#[]⟩])] := (((((((((((((hO.store 1 rfl 0 (.int .i64 0)).store 1 rfl 1 (.int .i64 0)).store 1 rfl 2 (.string ⟨#[]⟩)).store 1 rfl 3 (.string ⟨#[]⟩)).store 1 rfl 4 (.int .i64 0)).store 1 rfl 5 (.int .i64 0)).store 1 rfl 8 (.string ⟨#[]⟩)).store 1 rfl 14 (.int .i64 0)).store 1 rfl 15 (.int .i64 0)).store 1 rfl 16 (.slice none 0 0)).store 1 rfl 17 (.slice none 0 0)).store 1 rfl 18 (.slice none 0 0)).store 1 rfl 19 (.string ⟨#[]⟩))
 clear cf c0 c1 c2 c3 c4 c5 c8 c14 c15 c16 c17 c18 c19
 generalize (((((((((((((w1.setCell ⟨w.heap.size, 0, none⟩ (.int .i64 0)).setCell ⟨w.heap.size, 1, none⟩ (.int .i64 0)).setCell ⟨w.heap.size, 2, none⟩ (.string ⟨#[]⟩)).setCell ⟨w.heap.size, 3, none⟩ (.string ⟨#[]⟩)).setCell ⟨w.heap.size, 4, none⟩ (.int .i64 0)).setCell ⟨w.heap.size, 5, none⟩ (.int .i64 0)).setCell ⟨w.heap.size, 8, none⟩ (.string ⟨#[]⟩)).setCell ⟨w.heap.size, 14, none⟩ (.int .i64 0)).setCell ⟨w.heap.size, 15, none⟩ (.int .i64 0)).setCell ⟨w.heap.size, 16, none⟩ (.slice none 0 0)).setCell ⟨w.heap.size, 17, none⟩ (.slice none 0 0)).setCell ⟨w.heap.size, 18, none⟩ (.slice none 0 0)).setCell ⟨w.heap.size, 19, none⟩ (.string ⟨#[]⟩)) = w2 at *
 have hrd : RecL evC w (fun b => b < w.heap.size) (restF 3 fs) (setL (setL (setL (setL (setL (setL (setL (setL (E) 0 [.int .i64 0]) 1 [.int .i64 0]) 2 [.string ⟨#[]⟩]) 3 [.string ⟨#[]⟩]) 4 [.int .i64 0]) 5 [.int .i64 0]) 8 [.string ⟨#[]⟩]) 14 [.int .i64 0, .int .i64 0, .slice none 0 0, .slice none 0 0, .slice none 0 0, .string ⟨#[]⟩]) := by
  have hp := (RecL.put zz12 12 14 evC_ok (RecL.put zz8 8 8 evC_ok (RecL.put zz5 5 5 evC_ok (RecL.put zz4 4 4 evC_ok (RecL.put zz3 3 3 evC_ok (RecL.put zz2 2 2 evC_ok (RecL.put zz1 1 1 evC_ok (RecL.put zz0 0 0 evC_ok h.rd rfl rfl) rfl rfl) rfl rfl) rfl rfl) rfl rfl) rfl rfl) rfl rfl) rfl rfl)
  obtain ⟨a, b, c, d, e, f, g, i, j, k, m, n, o, p, q, r, rfl⟩ := sixteen hl16
  exact hp
 have hl2 := (hrd.len evC_ok).1
 generalize setL (setL (setL (setL (setL (setL (setL (setL (E) 0 [.int .i64 0]) 1 [.int .i64 0]) 2 [.string ⟨#[]⟩]) 3 [.string ⟨#[]⟩]) 4 [.int .i64 0]) 5 [.int .i64 0]) 8 [.string ⟨#[]⟩]) 14 [.int .i64 0, .int .i64 0, .slice none 0 0, .slice none 0 0, .slice none 0 0, .string ⟨#[]⟩] = E2 at *
 have hi2 := ev_info (show E2.length = 42 from hl2)
 have hi3 : (Tryz.prog.info? 43).map (·.size) = some E2.toArray.size := by rw [List.size_toArray]; exact hi2
 have h1 := all_oneCell_toArray (hrd.one evC_ok)
 have hR := own_range hO2 1 rfl
 have hT : w2.there (w.heap.size + 1) 0 E2.toArray.size := own_there hO2 0 rfl (by rw [List.size_toArray, show E2.length = 42 from hl2]; decide)
 have hb2 := hO2.below
 have hlt2 := hO2.lt 0
 obtain ⟨o1, o2, o3⟩ := ev_out hb2 hrd hT hlt2
 repeat' (first | (refine wpList_load_mid rfl 43 _ rfl w.heap.size 0 rfl E2 _ hR Tryz.underlying43 rfl hi2 ?_) | (refine wpList_store_mid rfl 43 _ _ rfl (w.heap.size + 1) 0 E2.toArray rfl rfl hT hi3 h1 ?_) | go_skip | go_guarded | go_step)
 refine bodyPost_ret (v := .agg E2.toArray) (run_res_cell 2 43 (w.heap.size + 1) 0 E2 _ rfl rfl o1 Tryz.underlying43 rfl hi2) rfl ?_
 exact ⟨E2, rfl, o2, o3⟩
theorem runused_4 (fs : List FV) (E : List Value) (w : World) (h : EvR w fs E) (hk : fs[0]? = some (fI 4)) : Calls Tryz.prog 25 #[.agg E.toArray] w (RetEv w (restF 4 fs)) := by
 have hE0 := ev_head h hk
 have hl := h.len
 have hl16 := (h.rd.len evC_ok).2
 go_enter Tryz.func25, Tryz.ntmps25
 go_upto_region 1 with (fail)
 generalize hx_ : World.alloc (World.alloc w _) _ = w1
 have hO : OwnB w w1 [(w.heap.size + 1, evZ), (w.heap.size, E)] := by rw [← hx_]; exact ((OwnB.refl w).new E.toArray _ (g := w.heap.size)).new evZ.toArray _ (g := w.heap.size + 1)
 clear hx_
 have c0 := hO.c 1 0 rfl hE0
 have c1 := hO.c 1 1 rfl (getD_at hl (j := 1) (by decide))
 have c2 := hO.c 1 2 rfl (getD_at hl (j := 2) (by decide))
 have c3 := hO.c 1 3 rfl (getD_at hl (j := 3) (by decide))
 have c4 := hO.c 1 4 rfl (getD_at hl (j := 4) (by decide))
 have c5 := hO.c 1 5 rfl (getD_at hl (j := 5) (by decide))
 have c6 := hO.c 1 6 rfl (getD_at hl (j := 6) (by decide))
 have cf := hO.fr 1
 go_upto_region 28 with (fail)
 have hO2 : OwnB w ((((((((w1.setCell ⟨w.heap.size, 0, none⟩ (.int .i64 0)).setCell ⟨w.heap.size, 1, none⟩ (.int .i64 0)).setCell ⟨w.heap.size, 2, none⟩ (.string ⟨#[]⟩)).setCell ⟨w.heap.size, 3, none⟩ (.string ⟨#[]⟩)).setCell ⟨w.heap.size, 4, none⟩ (.int .i64 0)).setCell ⟨w.heap.size, 5, none⟩ (.int .i64 0)).setCell ⟨w.heap.size, 6, none⟩ (.int .i64 0))) [(w.heap.size + 1, evZ), (w.heap.size, setL (setL (setL (setL (setL (setL (setL (E) 0 [.int .i64 0]) 1 [.int .i64 0]) 2 [.string ⟨#[]⟩]) 3 [.string ⟨#[]⟩]) 4 [.int .i64 0]) 5 [.int .i64 0]) 6 [.int .i64 0])] := (((((((hO.store 1 rfl 0 (.int .i64 0)).store 1 rfl 1 (.int .i64 0)).store 1 rfl 2 (.string ⟨#[]⟩)).store 1 rfl 3 (.string ⟨#[]⟩)).store 1 rfl 4 (.int .i64 0)).store 1 rfl 5 (.int .i64 0)).store 1 rfl 6 (.int .i64 0))
 clear cf c0 c1 c2 c3 c4 c5 c6
 generalize (((((((w1.setCell ⟨w.heap.size, 0, none⟩ (.int .i64 0)).setCell ⟨w.heap.size, 1, none⟩ (.int .i64 0)).setCell ⟨w.heap.size, 2, none⟩ (.string ⟨#[]⟩)).setCell ⟨w.heap.size, 3, none⟩ (.string ⟨#[]⟩)).setCell ⟨w.heap.size, 4, none⟩ (.int .i64 0)).setCell ⟨w.heap.size, 5, none⟩ (.int .i64 0)).setCell ⟨w.heap.size, 6, none⟩ (.int .i64 0)) = w2 at *
 have hrd : RecL evC w (fun b => b < w.heap.size) (restF 4 fs) (setL (setL (setL (setL (setL (setL (setL (E) 0 [.int .i64 0]) 1 [.int .i64 0]) 2 [.string ⟨#[]⟩]) 3 [.string ⟨#[]⟩]) 4 [.int .i64 0]) 5 [.int .i64 0]) 6 [.int .i64 0]) := by
  have hp := (RecL.put zz6 6 6 evC_ok (RecL.put zz5 5 5 evC_ok (RecL.put zz4 4 4 evC_ok (RecL.put zz3 3 3 evC_ok (RecL.put zz2 2 2 evC_ok (RecL.put zz1 1 1 evC_ok (RecL.put zz0 0 0 evC_ok h.rd rfl rfl) rfl rfl) rfl rfl) rfl rfl) rfl rfl) rfl rfl) rfl rfl)
  obtain ⟨a, b, c, d, e, f, g, i, j, k, m, n, o, p, q, r, rfl⟩ := sixteen hl16
  exact hp
 have hl2 := (hrd.len evC_ok).1
 generalize setL (setL (setL (setL (setL (setL (setL (E) 0 [.int .i64 0]) 1 [.int .i64 0]) 2 [.string ⟨#[]⟩]) 3 [.string ⟨#[]⟩]) 4 [.int .i64 0]) 5 [.int .i64 0]) 6 [.int .i64 0] = E2 at *
 have hi2 := ev_info (show E2.length = 42 from hl2)
 have hi3 : (Tryz.prog.info? 43).map (·.size) = some E2.toArray.size := by rw [List.size_toArray]; exact hi2
 have h1 := all_oneCell_toArray (hrd.one evC_ok)
 have hR := own_range hO2 1 rfl
 have hT : w2.there (w.heap.size + 1) 0 E2.toArray.size := own_there hO2 0 rfl (by rw [List.size_toArray, show E2.length = 42 from hl2]; decide)
 have hb2 := hO2.below
 have hlt2 := hO2.lt 0
 obtain ⟨o1, o2, o3⟩ := ev_out hb2 hrd hT hlt2
 repeat' (first | (refine wpList_load_mid rfl 43 _ rfl w.heap.size 0 rfl E2 _ hR Tryz.underlying43 rfl hi2 ?_) | (refine wpList_store_mid rfl 43 _ _ rfl (w.heap.size + 1) 0 E2.toArray rfl rfl hT hi3 h1 ?_) | go_skip | go_guarded | go_step)
 refine bodyPost_ret (v := .agg E2.toArray) (run_res_cell 2 43 (w.heap.size + 1) 0 E2 _ rfl rfl o1 Tryz.underlying43 rfl hi2) rfl ?_
 exact ⟨E2, rfl, o2, o3⟩
theorem runused_5 (fs : List FV) (E : List Value) (w : World) (h : EvR w fs E) (hk : fs[0]? = some (fI 5)) : Calls Tryz.prog 25 #[.agg E.toArray] w (RetEv w (restF 5 fs)) := by
 have hE0 := ev_head h hk
 have hl := h.len
 have hl16 := (h.rd.len evC_ok).2
 go_enter Tryz.func25, Tryz.ntmps25
 go_upto_region 1 with (fail)
 generalize hx_ : World.alloc (World.alloc w _) _ = w1
 have hO : OwnB w w1 [(w.heap.size + 1, evZ), (w.heap.size, E)] := by rw [← hx_]; exact ((OwnB.refl w).new E.toArray _ (g := w.heap.size)).new evZ.toArray _ (g := w.heap.size + 1)
 clear hx_
 have c0 := hO.c 1 0 rfl hE0
 have c1 := hO.c 1 1 rfl (getD_at hl (j := 1) (by decide))
 have c2 := hO.c 1 2 rfl (getD_at hl (j := 2) (by decide))
 have c3 := hO.c 1 3 rfl (getD_at hl (j := 3) (by decide))
 have c7 := hO.c 1 7 rfl (getD_at hl (j := 7) (by decide))
 have cf := hO.fr 1
 go_upto_region 28 with (fail)
 have hO2 : OwnB w ((((((w1.setCell ⟨w.heap.size, 0, none⟩ (.int .i64 0)).setCell ⟨w.heap.size, 1, none⟩ (.int .i64 0)).setCell ⟨w.heap.size, 2, none⟩ (.string ⟨#[]⟩)).setCell ⟨w.heap.size, 3, none⟩ (.string ⟨#[]⟩)).setCell ⟨w.heap.size, 7, none⟩ (.string ⟨#[]⟩))) [(w.heap.size + 1, evZ), (w.heap.size, setL (setL (setL (setL (setL (E) 0 [.int .i64 0]) 1 [.int .i64 0]) 2 [.string ⟨#[]⟩]) 3 [.string ⟨#[]⟩]) 7 [.string ⟨#[]⟩])] := (((((hO.store 1 rfl 0 (.int .i64 0)).store 1 rfl 1 (.int .i64 0)).store 1 rfl 2 (.string ⟨#[]⟩)).store 1 rfl 3 (.string ⟨#[]⟩)).store 1 rfl 7 (.string ⟨#[]⟩))
 clear cf c0 c1 c2 c3 c7
 generalize (((((w1.setCell ⟨w.heap.size, 0, none⟩ (.int .i64 0)).setCell ⟨w.heap.size, 1, none⟩ (.int .i64 0)).setCell ⟨w.heap.size, 2, none⟩ (.string ⟨#[]⟩)).setCell ⟨w.heap.size, 3, none⟩ (.string ⟨#[]⟩)).setCell ⟨w.heap.size, 7, none⟩ (.string ⟨#[]⟩)) = w2 at *
 have hrd : RecL evC w (fun b => b < w.heap.size) (restF 5 fs) (setL (setL (setL (setL (setL (E) 0 [.int .i64 0]) 1 [.int .i64 0]) 2 [.string ⟨#[]⟩]) 3 [.string ⟨#[]⟩]) 7 [.string ⟨#[]⟩]) := by
  have hp := (RecL.put zz7 7 7 evC_ok (RecL.put zz3 3 3 evC_ok (RecL.put zz2 2 2 evC_ok (RecL.put zz1 1 1 evC_ok (RecL.put zz0 0 0 evC_ok h.rd rfl rfl) rfl rfl) rfl rfl) rfl rfl) rfl rfl)
  obtain ⟨a, b, c, d, e, f, g, i, j, k, m, n, o, p, q, r, rfl⟩ := sixteen hl16
  exact hp
 have hl2 := (hrd.len evC_ok).1
 generalize setL (setL (setL (setL (setL (E) 0 [.int .i64 0]) 1 [.int .i64 0]) 2 [.string ⟨#[]⟩]) 3 [.string ⟨#[]⟩]) 7 [.string ⟨#[]⟩] = E2 at *
 have hi2 := ev_info (show E2.length = 42 from hl2)
 have hi3 : (Tryz.prog.info? 43).map (·.size) = some E2.toArray.size := by rw [List.size_toArray]; exact hi2
 have h1 := all_oneCell_toArray (hrd.one evC_ok)
 have hR := own_range hO2 1 rfl
 have hT : w2.there (w.heap.size + 1) 0 E2.toArray.size := own_there hO2 0 rfl (by rw [List.size_toArray, show E2.length = 42 from hl2]; decide)
 have hb2 := hO2.below
 have hlt2 := hO2.lt 0
 obtain ⟨o1, o2, o3⟩ := ev_out hb2 hrd hT hlt2
 repeat' (first | (refine wpList_load_mid rfl 43 _ rfl w.heap.size 0 rfl E2 _ hR Tryz.underlying43 rfl hi2 ?_) | (refine wpList_store_mid rfl 43 _ _ rfl (w.heap.size + 1) 0 E2.toArray rfl rfl hT hi3 h1 ?_) | go_skip | go_guarded | go_step)
 refine bodyPost_ret (v := .agg E2.toArray) (run_res_cell 2 43 (w.heap.size + 1) 0 E2 _ rfl rfl o1 Tryz.underlying43 rfl hi2) rfl ?_
 exact ⟨E2, rfl, o2, o3⟩
theorem runused_6 (fs : List FV) (E : List Value) (w : World) (h : EvR w fs E) (hk : fs[0]? = some (fI 6)) : Calls Tryz.prog 25 #[.agg E.toArray] w (RetEv w (restF 6 fs)) := by
 have hE0 := ev_head h hk
 have hl := h.len
 have hl16 := (h.rd.len evC_ok).2
 go_enter Tryz.func25, Tryz.ntmps25
 go_upto_region 1 with (fail)
 generalize hx_ : World.alloc (World.alloc w _) _ = w1
 have hO : OwnB w w1 [(w.heap.size + 1, evZ), (w.heap.size, E)] := by rw [← hx_]; exact ((OwnB.refl w).new E.toArray _ (g := w.heap.size)).new evZ.toArray _ (g := w.heap.size + 1)
 clear hx_
 have c0 := hO.c 1 0 rfl hE0
 have c1 := hO.c 1 1 rfl (getD_at hl (j := 1) (by decide))
 have c2 := hO.c 1 2 rfl (getD_at hl (j := 2) (by decide))
 have c3 := hO.c 1 3 rfl (getD_at hl (j := 3) (by decide))
 have c7 := hO.c 1 7 rfl (getD_at hl (j := 7) (by decide))
 have cf := hO.fr 1
 go_upto_region 28 with (fail)
 have hO2 : OwnB w ((((((w1.setCell ⟨w.heap.size, 0, none⟩ (.int .i64 0)).setCell ⟨w.heap.size, 1, none⟩ (.int .i64 0)).setCell ⟨w.heap.size, 2, none⟩ (.string ⟨#[]⟩)).setCell ⟨w.heap.size, 3, none⟩ (.string ⟨#[]⟩)).setCell ⟨w.heap.size, 7, none⟩ (.string ⟨#[]⟩))) [(w.heap.size + 1, evZ), (w.heap.size, setL (setL (setL (setL (setL (E) 0 [.int .i64 0]) 1 [.int .i64 0]) 2 [.string ⟨#[]⟩]) 3 [.string ⟨#[]⟩]) 7 [.string ⟨#[]⟩])] := (((((hO.store 1 rfl 0 (.int .i64 0)).store 1 rfl 1 (.int .i64 0)).store 1 rfl 2 (.string ⟨#[]⟩)).store 1 rfl 3 (.string ⟨#[]⟩)).store 1 rfl 7 (.string ⟨#[]⟩))
 clear cf c0 c1 c2 c3 c7
 generalize (((((w1.setCell ⟨w.heap.size, 0, none⟩ (.int .i64 0)).setCell ⟨w.heap.size, 1, none⟩ (.int .i64 0)).setCell ⟨w.heap.size, 2, none⟩ (.string ⟨#[]⟩)).setCell ⟨w.heap.size, 3, none⟩ (.string ⟨#[]⟩)).setCell ⟨w.heap.size, 7, none⟩ (.string ⟨#[]⟩)) = w2 at *
 have hrd : RecL evC w (fun b => b < w.heap.size) (restF 6 fs) (setL (setL (setL (setL (setL (E) 0 [.int .i64 0]) 1 [.int .i64 0]) 2 [.string ⟨#[]⟩]) 3 [.string ⟨#[]⟩]) 7 [.string ⟨#[]⟩]) := by
  have hp := (RecL.put zz7 7 7 evC_ok (RecL.put zz3 3 3 evC_ok (RecL.put zz2 2 2 evC_ok (RecL.put zz1 1 1 evC_ok (RecL.put zz0 0 0 evC_ok h.rd rfl rfl) rfl rfl) rfl rfl) rfl rfl) rfl rfl)
  obtain ⟨a, b, c, d, e, f, g, i, j, k, m, n, o, p, q, r, rfl⟩ := sixteen hl16
  exact hp
 have hl2 := (hrd.len evC_ok).1
 generalize setL (setL (setL (setL (setL (E) 0 [.int .i64 0]) 1 [.int .i64 0]) 2 [.string ⟨#[]⟩]) 3 [.string ⟨#[]⟩]) 7 [.string ⟨#[]⟩] = E2 at *
 have hi2 := ev_info (show E2.length = 42 from hl2)
 have hi3 : (Tryz.prog.info? 43).map (·.size) = some E2.toArray.size := by rw [List.size_toArray]; exact hi2
 have h1 := all_oneCell_toArray (hrd.one evC_ok)
 have hR := own_range hO2 1 rfl
 have hT : w2.there (w.heap.size + 1) 0 E2.toArray.size := own_there hO2 0 rfl (by rw [List.size_toArray, show E2.length = 42 from hl2]; decide)
 have hb2 := hO2.below
 have hlt2 := hO2.lt 0
 obtain ⟨o1, o2, o3⟩ := ev_out hb2 hrd hT hlt2
 repeat' (first | (refine wpList_load_mid rfl 43 _ rfl w.heap.size 0 rfl E2 _ hR Tryz.underlying43 rfl hi2 ?_) | (refine wpList_store_mid rfl 43 _ _ rfl (w.heap.size + 1) 0 E2.toArray rfl rfl hT hi3 h1 ?_) | go_skip | go_guarded | go_step)
 refine bodyPost_ret (v := .agg E2.toArray) (run_res_cell 2 43 (w.heap.size + 1) 0 E2 _ rfl rfl o1 Tryz.underlying43 rfl hi2) rfl ?_
 exact ⟨E2, rfl, o2, o3⟩
theorem runused_7 (fs : List FV) (E : List Value) (w : World) (h : EvR w fs E) (hk : fs[0]? = some (fI 7)) : Calls Tryz.prog 25 #[.agg E.toArray] w (RetEv w (restF 7 fs)) := by
 have hE0 := ev_head h hk
 have hl := h.len
 have hl16 := (h.rd.len evC_ok).2
 go_enter Tryz.func25, Tryz.ntmps25
 go_upto_region 1 with (fail)
 generalize hx_ : World.alloc (World.alloc w _) _ = w1
 have hO : OwnB w w1 [(w.heap.size + 1, evZ), (w.heap.size, E)] := by rw [← hx_]; exact ((OwnB.refl w).new E.toArray _ (g := w.heap.size)).new evZ.toArray _ (g := w.heap.size + 1)
 clear hx_
 have c0 := hO.c 1 0 rfl hE0
 have c1 := hO.c 1 1 rfl (getD_at hl (j := 1) (by decide))
 have c2 := hO.c 1 2 rfl (getD_at hl (j := 2) (by decide))
 have c6 := hO.c 1 6 rfl (getD_at hl (j := 6) (by decide))
 have cf := hO.fr 1
 go_upto_region 28 with (fail)
 have hO2 : OwnB w (((((w1.setCell ⟨w.heap.size, 0, none⟩ (.int .i64 0)).setCell ⟨w.heap.size, 1, none⟩ (.int .i64 0)).setCell ⟨w.heap.size, 2, none⟩ (.string ⟨#[]⟩)).setCell ⟨w.heap.size, 6, none⟩ (.int .i64 0))) [(w.heap.size + 1, evZ), (w.heap.size, setL (setL (setL (setL (E) 0 [.int .i64 0]) 1 [.int .i64 0]) 2 [.string ⟨#[]⟩]) 6 [.int .i64 0])] := ((((hO.store 1 rfl 0 (.int .i64 0)).store 1 rfl 1 (.int .i64 0)).store 1 rfl 2 (.string ⟨#[]⟩)).store 1 rfl 6 (.int .i64 0))
 clear cf c0 c1 c2 c6
 generalize ((((w1.setCell ⟨w.heap.size, 0, none⟩ (.int .i64 0)).setCell ⟨w.heap.size, 1, none⟩ (.int .i64 0)).setCell ⟨w.heap.size, 2, none⟩ (.string ⟨#[]⟩)).setCell ⟨w.heap.size, 6, none⟩ (.int .i64 0)) = w2 at *
 have hrd : RecL evC w (fun b => b < w.heap.size) (restF 7 fs) (setL (setL (setL (setL (E) 0 [.int .i64 0]) 1 [.int .i64 0]) 2 [.string ⟨#[]⟩]) 6 [.int .i64 0]) := by
  have hp := (RecL.put zz6 6 6 evC_ok (RecL.put zz2 2 2 evC_ok (RecL.put zz1 1 1 evC_ok (RecL.put zz0 0 0 evC_ok h.rd rfl rfl) rfl rfl) rfl rfl) rfl rfl)
  obtain ⟨a, b, c, d, e, f, g, i, j, k, m, n, o, p, q, r, rfl⟩ := sixteen hl16
  exact hp
 have hl2 := (hrd.len evC_ok).1
 generalize setL (setL (setL (setL (E) 0 [.int .i64 0]) 1 [.int .i64 0]) 2 [.string ⟨#[]⟩]) 6 [.int .i64 0] = E2 at *
 have hi2 := ev_info (show E2.length = 42 from hl2)
 have hi3 : (Tryz.prog.info? 43).map (·.size) = some E2.toArray.size := by rw [List.size_toArray]; exact hi2
 have h1 := all_oneCell_toArray (hrd.one evC_ok)
 have hR := own_range hO2 1 rfl
 have hT : w2.there (w.heap.size + 1) 0 E2.toArray.size := own_there hO2 0 rfl (by rw [List.size_toArray, show E2.length = 42 from hl2]; decide)
 have hb2 := hO2.below
 have hlt2 := hO2.lt 0
 obtain ⟨o1, o2, o3⟩ := ev_out hb2 hrd hT hlt2
 repeat' (first | (refine wpList_load_mid rfl 43 _ rfl w.heap.size 0 rfl E2 _ hR Tryz.underlying43 rfl hi2 ?_) | (refine wpList_store_mid rfl 43 _ _ rfl (w.heap.size + 1) 0 E2.toArray rfl rfl hT hi3 h1 ?_) | go_skip | go_guarded | go_step)
 refine bodyPost_ret (v := .agg E2.toArray) (run_res_cell 2 43 (w.heap.size + 1) 0 E2 _ rfl rfl o1 Tryz.underlying43 rfl hi2) rfl ?_
 exact ⟨E2, rfl, o2, o3⟩
theorem runused_8 (fs : List FV) (E : List Value) (w : World) (h : EvR w fs E) (hk : fs[0]? = some (fI 8)) : Calls Tryz.prog 25 #[.agg E.toArray] w (RetEv w (restF 8 fs)) := by
 have hE0 := ev_head h hk
 have hl := h.len
 have hl16 := (h.rd.len evC_ok).2
 go_enter Tryz.func25, Tryz.ntmps25
 go_upto_region 1 with (fail)
 generalize hx_ : World.alloc (World.alloc w _) _ = w1
 have hO : OwnB w w1 [(w.heap.size + 1, evZ), (w.heap.size, E)] := by rw [← hx_]; exact ((OwnB.refl w).new E.toArray _ (g := w.heap.size)).new evZ.toArray _ (g := w.heap.size + 1)
 clear hx_
 have c0 := hO.c 1 0 rfl hE0
 have c1 := hO.c 1 1 rfl (getD_at hl (j := 1) (by decide))
 have c2 := hO.c 1 2 rfl (getD_at hl (j := 2) (by decide))
 have c3 := hO.c 1 3 rfl (getD_at hl (j := 3) (by decide))
 have cf := hO.fr 1
 go_upto_region 28 with (fail)
 have hO2 : OwnB w (((((w1.setCell ⟨w.heap.size, 0, none⟩ (.int .i64 0)).setCell ⟨w.heap.size, 1, none⟩ (.int .i64 0)).setCell ⟨w.heap.size, 2, none⟩ (.string ⟨#[]⟩)).setCell ⟨w.heap.size, 3, none⟩ (.string ⟨#[]⟩))) [(w.heap.size + 1, evZ), (w.heap.size, setL (setL (setL (setL (E) 0 [.int .i64 0]) 1 [.int .i64 0]) 2 [.string ⟨#[]⟩]) 3 [.string ⟨#[]⟩])] := ((((hO.store 1 rfl 0 (.int .i64 0)).store 1 rfl 1 (.int .i64 0)).store 1 rfl 2 (.string ⟨#[]⟩)).store 1 rfl 3 (.string ⟨#[]⟩))
 clear cf c0 c1 c2 c3
 generalize ((((w1.setCell ⟨w.heap.size, 0, none⟩ (.int .i64 0)).setCell ⟨w.heap.size, 1, none⟩ (.int .i64 0)).setCell ⟨w.heap.size, 2, none⟩ (.string ⟨#[]⟩)).setCell ⟨w.heap.size, 3, none⟩ (.string ⟨#[]⟩)) = w2 at *
 have hrd : RecL evC w (fun b => b < w.heap.size) (restF 8 fs) (setL (setL (setL (setL (E) 0 [.int .i64 0]) 1 [.int .i64 0]) 2 [.string ⟨#[]⟩]) 3 [.string ⟨#[]⟩]) := by
  have hp := (RecL.put zz3 3 3 evC_ok (RecL.put zz2 2 2 evC_ok (RecL.put zz1 1 1 evC_ok (RecL.put zz0 0 0 evC_ok h.rd rfl rfl) rfl rfl) rfl rfl) rfl rfl)
  obtain ⟨a, b, c, d, e, f, g, i, j, k, m, n, o, p, q, r, rfl⟩ := sixteen hl16
  exact hp
 have hl2 := (hrd.len evC_ok).1
 generalize setL (setL (setL (setL (E) 0 [.int .i64 0]) 1 [.int .i64 0]) 2 [.string ⟨#[]⟩]) 3 [.string ⟨#[]⟩] = E2 at *
 have hi2 := ev_info (show E2.length = 42 from hl2)
 have hi3 : (Tryz.prog.info? 43).map (·.size) = some E2.toArray.size := by rw [List.size_toArray]; exact hi2
 have h1 := all_oneCell_toArray (hrd.one evC_ok)
 have hR := own_range hO2 1 rfl
 have hT : w2.there (w.heap.size + 1) 0 E2.toArray.size := own_there hO2 0 rfl (by rw [List.size_toArray, show E2.length = 42 from hl2]; decide)
 have hb2 := hO2.below
 have hlt2 := hO2.lt 0
 obtain ⟨o1, o2, o3⟩ := ev_out hb2 hrd hT hlt2
 repeat' (first | (refine wpList_load_mid rfl 43 _ rfl w.heap.size 0 rfl E2 _ hR Tryz.underlying43 rfl hi2 ?_) | (refine wpList_store_mid rfl 43 _ _ rfl (w.heap.size + 1) 0 E2.toArray rfl rfl hT hi3 h1 ?_) | go_skip | go_guarded | go_step)
 refine bodyPost_ret (v := .agg E2.toArray) (run_res_cell 2 43 (w.heap.size + 1) 0 E2 _ rfl rfl o1 Tryz.underlying43 rfl hi2) rfl ?_
 exact ⟨E2, rfl, o2, o3⟩
theorem runused_9 (fs : List FV) (E : List Value) (w : World) (h : EvR w fs E) (hk : fs[0]? = some (fI 9)) : Calls Tryz.prog 25 #[.agg E.toArray] w (RetEv w (restF 9 fs)) := by
 have hE0 := ev_head h hk
 have hl := h.len
 have hl16 := (h.rd.len evC_ok).2
 go_enter Tryz.func25, Tryz.ntmps25
 go_upto_region 1 with (fail)
 generalize hx_ : World.alloc (World.alloc w _) _ = w1
 have hO : OwnB w w1 [(w.heap.size + 1, evZ), (w.heap.size, E)] := by rw [← hx_]; exact ((OwnB.refl w).new E.toArray _ (g := w.heap.size)).new evZ.toArray _ (g := w.heap.size + 1)
 clear hx_
 have c0 := hO.c 1 0 rfl hE0
 have c1 := hO.c 1 1 rfl (getD_at hl (j := 1) (by decide))
 have c2 := hO.c 1 2 rfl (getD_at hl (j := 2) (by decide))
 have cf := hO.fr 1
 go_upto_region 28 with (fail)
 have hO2 : OwnB w ((((w1.setCell ⟨w.heap.size, 0, none⟩ (.int .i64 0)).setCell ⟨w.heap.size, 1, none⟩ (.int .i64 0)).setCell ⟨w.heap.size, 2, none⟩ (.string ⟨#[]⟩))) [(w.heap.size + 1, evZ), (w.heap.size, setL (setL (setL (E) 0 [.int .i64 0]) 1 [.int .i64 0]) 2 [.string ⟨#[]⟩])] := (((hO.store 1 rfl 0 (.int .i64 0)).store 1 rfl 1 (.int .i64 0)).store 1 rfl 2 (.string ⟨#[]⟩))
 clear cf c0 c1 c2
 generalize (((w1.setCell ⟨w.heap.size, 0, none⟩ (.int .i64 0)).setCell ⟨w.heap.size, 1, none⟩ (.int .i64 0)).setCell ⟨w.heap.size, 2, none⟩ (.string ⟨#[]⟩)) = w2 at *
 have hrd : RecL evC w (fun b => b < w.heap.size) (restF 9 fs) (setL (setL (setL (E) 0 [.int .i64 0]) 1 [.int .i64 0]) 2 [.string ⟨#[]⟩]) := by
  have hp := (RecL.put zz2 2 2 evC_ok (RecL.put zz1 1 1 evC_ok (RecL.put zz0 0 0 evC_ok h.rd rfl rfl) rfl rfl) rfl rfl)
  obtain ⟨a, b, c, d, e, f, g, i, j, k, m, n, o, p, q, r, rfl⟩ := sixteen hl16
  exact hp
 have hl2 := (hrd.len evC_ok).1
 generalize setL (setL (setL (E) 0 [.int .i64 0]) 1 [.int .i64 0]) 2 [.string ⟨#[]⟩] = E2 at *
 have hi2 := ev_info (show E2.length = 42 from hl2)
 have hi3 : (Tryz.prog.info? 43).map (·.size) = some E2.toArray.size := by rw [List.size_toArray]; exact hi2
 have h1 := all_oneCell_toArray (hrd.one evC_ok)
 have hR := own_range hO2 1 rfl
 have hT : w2.there (w.heap.size + 1) 0 E2.toArray.size := own_there hO2 0 rfl (by rw [List.size_toArray, show E2.length = 42 from hl2]; decide)
 have hb2 := hO2.below
 have hlt2 := hO2.lt 0
 obtain ⟨o1, o2, o3⟩ := ev_out hb2 hrd hT hlt2
 repeat' (first | (refine wpList_load_mid rfl 43 _ rfl w.heap.size 0 rfl E2 _ hR Tryz.underlying43 rfl hi2 ?_) | (refine wpList_store_mid rfl 43 _ _ rfl (w.heap.size + 1) 0 E2.toArray rfl rfl hT hi3 h1 ?_) | go_skip | go_guarded | go_step)
 refine bodyPost_ret (v := .agg E2.toArray) (run_res_cell 2 43 (w.heap.size + 1) 0 E2 _ rfl rfl o1 Tryz.underlying43 rfl hi2) rfl ?_
 exact ⟨E2, rfl, o2, o3⟩
theorem runused_10 (fs : List FV) (E : List Value) (w : World) (h : EvR w fs E) (hk : fs[0]? = some (fI 10)) : Calls Tryz.prog 25 #[.agg E.toArray] w (RetEv w (restF 10 fs)) := by
 have hE0 := ev_head h hk
 have hl := h.len
 have hl16 := (h.rd.len evC_ok).2
 go_enter Tryz.func25, Tryz.ntmps25
 go_upto_region 1 with (fail)
 generalize hx_ : World.alloc (World.alloc w _) _ = w1
 have hO : OwnB w w1 [(w.heap.size + 1, evZ), (w.heap.size, E)] := by rw [← hx_]; exact ((OwnB.refl w).new E.toArray _ (g := w.heap.size)).new evZ.toArray _ (g := w.heap.size + 1)
 clear hx_
 have c0 := hO.c 1 0 rfl hE0
 have c1 := hO.c 1 1 rfl (getD_at hl (j := 1) (by decide))
 have c4 := hO.c 1 4 rfl (getD_at hl (j := 4) (by decide))
 have c5 := hO.c 1 5 rfl (getD_at hl (j := 5) (by decide))
 have c6 := hO.c 1 6 rfl (getD_at hl (j := 6) (by decide))
 have c8 := hO.c 1 8 rfl (getD_at hl (j := 8) (by decide))
 have cf := hO.fr 1
 go_upto_region 28 with (fail)
 have hO2 : OwnB w (((((((w1.setCell ⟨w.heap.size, 0, none⟩ (.int .i64 0)).setCell ⟨w.heap.size, 1, none⟩ (.int .i64 0)).setCell ⟨w.heap.size, 4, none⟩ (.int .i64 0)).setCell ⟨w.heap.size, 5, none⟩ (.int .i64 0)).setCell ⟨w.heap.size, 6, none⟩ (.int .i64 0)).setCell ⟨w.heap.size, 8, none⟩ (.string ⟨#[]⟩))) [(w.heap.size + 1, evZ), (w.heap.size, setL (setL (setL (setL (setL (setL (E) 0 [.int .i64 0]) 1 [.int .i64 0]) 4 [.int .i64 0]) 5 [.int .i64 0]) 6 [.int .i64 0]) 8 [.string ⟨#[]⟩])] := ((((((hO.store 1 rfl 0 (.int .i64 0)).store 1 rfl 1 (.int .i64 0)).store 1 rfl 4 (.int .i64 0)).store 1 rfl 5 (.int .i64 0)).store 1 rfl 6 (.int .i64 0)).store 1 rfl 8 (.string ⟨#[]⟩))
 clear cf c0 c1 c4 c5 c6 c8
 generalize ((((((w1.setCell ⟨w.heap.size, 0, none⟩ (.int .i64 0)).setCell ⟨w.heap.size, 1, none⟩ (.int .i64 0)).setCell ⟨w.heap.size, 4, none⟩ (.int .i64 0)).setCell ⟨w.heap.size, 5, none⟩ (.int .i64 0)).setCell ⟨w.heap.size, 6, none⟩ (.int .i64 0)).setCell ⟨w.heap.size, 8, none⟩ (.string ⟨#[]⟩)) = w2 at *
 have hrd : RecL evC w (fun b => b < w.heap.size) (restF 10 fs) (setL (setL (setL (setL (setL (setL (E) 0 [.int .i64 0]) 1 [.int .i64 0]) 4 [.int .i64 0]) 5 [.int .i64 0]) 6 [.int .i64 0]) 8 [.string ⟨#[]⟩]) := by
  have hp := (RecL.put zz8 8 8 evC_ok (RecL.put zz6 6 6 evC_ok (RecL.put zz5 5 5 evC_ok (RecL.put zz4 4 4 evC_ok (RecL.put zz1 1 1 evC_ok (RecL.put zz0 0 0 evC_ok h.rd rfl rfl) rfl rfl) rfl rfl) rfl rfl) rfl rfl) rfl rfl)
  obtain ⟨a, b, c, d, e, f, g, i, j, k, m, n, o, p, q, r, rfl⟩ := sixteen hl16
  exact hp
 have hl2 := (hrd.len evC_ok).1
 generalize setL (setL (setL (setL (setL (setL (E) 0 [.int .i64 0]) 1 [.int .i64 0]) 4 [.int .i64 0]) 5 [.int .i64 0]) 6 [.int .i64 0]) 8 [.string ⟨#[]⟩] = E2 at *
 have hi2 := ev_info (show E2.length = 42 from hl2)
 have hi3 : (Tryz.prog.info? 43).map (·.size) = some E2.toArray.size := by rw [List.size_toArray]; exact hi2
 have h1 := all_oneCell_toArray (hrd.one evC_ok)
 have hR := own_range hO2 1 rfl
 have hT : w2.there (w.heap.size + 1) 0 E2.toArray.size := own_there hO2 0 rfl (by rw [List.size_toArray, show E2.length = 42 from hl2]; decide)
 have hb2 := hO2.below
 have hlt2 := hO2.lt 0
 obtain ⟨o1, o2, o3⟩ := ev_out hb2 hrd hT hlt2
 repeat' (first | (refine wpList_load_mid rfl 43 _ rfl w.heap.size 0 rfl E2 _ hR Tryz.underlying43 rfl hi2 ?_) | (refine wpList_store_mid rfl 43 _ _ rfl (w.heap.size + 1) 0 E2.toArray rfl rfl hT hi3 h1 ?_) | go_skip | go_guarded | go_step)
 refine bodyPost_ret (v := .agg E2.toArray) (run_res_cell 2 43 (w.heap.size + 1) 0 E2 _ rfl rfl o1 Tryz.underlying43 rfl hi2) rfl ?_
 exact ⟨E2, rfl, o2, o3⟩
theorem runused_11 (fs : List FV) (E : List Value) (w : World) (h : EvR w fs E) (hk : fs[0]? = some (fI 11)) : Calls Tryz.prog 25 #[.agg E.toArray] w (RetEv w (restF 11 fs)) := by
 have hE0 := ev_head h hk
 have hl := h.len
 have hl16 := (h.rd.len evC_ok).2
 go_enter Tryz.func25, Tryz.ntmps25
 go_upto_region 1 with (fail)
 generalize hx_ : World.alloc (World.alloc w _) _ = w1
 have hO : OwnB w w1 [(w.heap.size + 1, evZ), (w.heap.size, E)] := by rw [← hx_]; exact ((OwnB.refl w).new E.toArray _ (g := w.heap.size)).new evZ.toArray _ (g := w.heap.size + 1)
 clear hx_
 have c0 := hO.c 1 0 rfl hE0
 have c1 := hO.c 1 1 rfl (getD_at hl (j := 1) (by decide))
 have c20 := hO.c 1 20 rfl (getD_at hl (j := 20) (by decide))
 have c21 := hO.c 1 21 rfl (getD_at hl (j := 21) (by decide))
 have c22 := hO.c 1 22 rfl (getD_at hl (j := 22) (by decide))
 have c23 := hO.c 1 23 rfl (getD_at hl (j := 23) (by decide))
 have c24 := hO.c 1 24 rfl (getD_at hl (j := 24) (by decide))
 have c25 := hO.c 1 25 rfl (getD_at hl (j := 25) (by decide))
 have c26 := hO.c 1 26 rfl (getD_at hl (j := 26) (by decide))
 have c27 := hO.c 1 27 rfl (getD_at hl (j := 27) (by decide))
 have c28 := hO.c 1 28 rfl (getD_at hl (j := 28) (by decide))
 have cf := hO.fr 1
 go_upto_region 28 with (fail)
 have hO2 : OwnB w ((((((((((((w1.setCell ⟨w.heap.size, 0, none⟩ (.int .i64 0)).setCell ⟨w.heap.size, 1, none⟩ (.int .i64 0)).setCell ⟨w.heap.size, 20, none⟩ (.string ⟨#[]⟩)).setCell ⟨w.heap.size, 21, none⟩ (.slice none 0 0)).setCell ⟨w.heap.size, 22, none⟩ (.int .i64 0)).setCell ⟨w.heap.size, 23, none⟩ (.int .i64 0)).setCell ⟨w.heap.size, 24, none⟩ (.bool false)).setCell ⟨w.heap.size, 25, none⟩ (.int .i64 0)).setCell ⟨w.heap.size, 26, none⟩ (.int .i64 0)).setCell ⟨w.heap.size, 27, none⟩ (.int .i64 0)).setCell ⟨w.heap.size, 28, none⟩ (.slice none 0 0))) [(w.heap.size + 1, evZ), (w.heap.size, setL (setL (setL (E) 0 [.int .i64 0]) 1 [.int .i64 0]) 20 [.string ⟨#[]⟩, .slice none 0 0, .int .i64 0, .int .i64 0, .bool false, .int .i64 0, .int .i64 0, .int .i64 0, .slice none 0 0])] := (((((((((((hO.store 1 rfl 0 (.int .i64 0)).store 1 rfl 1 (.int .i64 0)).store 1 rfl 20 (.string ⟨#[]⟩)).store 1 rfl 21 (.slice none 0 0)).store 1 rfl 22 (.int .i64 0)).store 1 rfl 23 (.int .i64 0)).store 1 rfl 24 (.bool false)).store 1 rfl 25 (.int .i64 0)).store 1 rfl 26 (.int .i64 0)).store 1 rfl 27 (.int .i64 0)).store 1 rfl 28 (.slice none 0 0))
 clear cf c0 c1 c20 c21 c22 c23 c24 c25 c26 c27 c28
 generalize (((((((((((w1.setCell ⟨w.heap.size, 0, none⟩ (.int .i64 0)).setCell ⟨w.heap.size, 1, none⟩ (.int .i64 0)).setCell ⟨w.heap.size, 20, none⟩ (.string ⟨#[]⟩)).setCell ⟨w.heap.size, 21, none⟩ (.slice none 0 0)).setCell ⟨w.heap.size, 22, none⟩ (.int .i64 0)).setCell ⟨w.heap.size, 23, none⟩ (.int .i64 0)).setCell ⟨w.heap.size, 24, none⟩ (.bool false)).setCell ⟨w.heap.size, 25, none⟩ (.int .i64 0)).setCell ⟨w.heap.size, 26, none⟩ (.int .i64 0)).setCell ⟨w.heap.size, 27, none⟩ (.int .i64 0)).setCell ⟨w.heap.size, 28, none⟩ (.slice none 0 0)) = w2 at *
 have hrd : RecL evC w (fun b => b < w.heap.size) (restF 11 fs) (setL (setL (setL (E) 0 [.int .i64 0]) 1 [.int .i64 0]) 20 [.string ⟨#[]⟩, .slice none 0 0, .int .i64 0, .int .i64 0, .bool false, .int .i64 0, .int .i64 0, .int .i64 0, .slice none 0 0]) := by
  have hp := (RecL.put zz13 13 20 evC_ok (RecL.put zz1 1 1 evC_ok (RecL.put zz0 0 0 evC_ok h.rd rfl rfl) rfl rfl) rfl rfl)
  obtain ⟨a, b, c, d, e, f, g, i, j, k, m, n, o, p, q, r, rfl⟩ := sixteen hl16
  exact hp
 have hl2 := (hrd.len evC_ok).1
 generalize setL (setL (setL (E) 0 [.int .i64 0]) 1 [.int .i64 0]) 20 [.string ⟨#[]⟩, .slice none 0 0, .int .i64 0, .int .i64 0, .bool false, .int .i64 0, .int .i64 0, .int .i64 0, .slice none 0 0] = E2 at *
 have hi2 := ev_info (show E2.length = 42 from hl2)
 have hi3 : (Tryz.prog.info? 43).map (·.size) = some E2.toArray.size := by rw [List.size_toArray]; exact hi2
 have h1 := all_oneCell_toArray (hrd.one evC_ok)
 have hR := own_range hO2 1 rfl
 have hT : w2.there (w.heap.size + 1) 0 E2.toArray.size := own_there hO2 0 rfl (by rw [List.size_toArray, show E2.length = 42 from hl2]; decide)
 have hb2 := hO2.below
 have hlt2 := hO2.lt 0
 obtain ⟨o1, o2, o3⟩ := ev_out hb2 hrd hT hlt2
 repeat' (first | (refine wpList_load_mid rfl 43 _ rfl w.heap.size 0 rfl E2 _ hR Tryz.underlying43 rfl hi2 ?_) | (refine wpList_store_mid rfl 43 _ _ rfl (w.heap.size + 1) 0 E2.toArray rfl rfl hT hi3 h1 ?_) | go_skip | go_guarded | go_step)
 refine bodyPost_ret (v := .agg E2.toArray) (run_res_cell 2 43 (w.heap.size + 1) 0 E2 _ rfl rfl o1 Tryz.underlying43 rfl hi2) rfl ?_
 exact ⟨E2, rfl, o2, o3⟩
theorem runused_12 (fs : List FV) (E : List Value) (w : World) (h : EvR w fs E) (hk : fs[0]? = some (fI 12)) : Calls Tryz.prog 25 #[.agg E.toArray] w (RetEv w (restF 12 fs)) := by
 have hE0 := ev_head h hk
 have hl := h.len
 have hl16 := (h.rd.len evC_ok).2
 go_enter Tryz.func25, Tryz.ntmps25
 go_upto_region 1 with (fail)
 generalize hx_ : World.alloc (World.alloc w _) _ = w1
 have hO : OwnB w w1 [(w.heap.size + 1, evZ), (w.heap.size, E)] := by rw [← hx_]; exact ((OwnB.refl w).new E.toArray _ (g := w.heap.size)).new evZ.toArray _ (g := w.heap.size + 1)
 clear hx_
 have c0 := hO.c 1 0 rfl hE0
 have c1 := hO.c 1 1 rfl (getD_at hl (j := 1) (by decide))
 have c7 := hO.c 1 7 rfl (getD_at hl (j := 7) (by decide))
 have cf := hO.fr 1
 go_upto_region 28 with (fail)
 have hO2 : OwnB w ((((w1.setCell ⟨w.heap.size, 0, none⟩ (.int .i64 0)).setCell ⟨w.heap.size, 1, none⟩ (.int .i64 0)).setCell ⟨w.heap.size, 7, none⟩ (.string ⟨#[]⟩))) [(w.heap.size + 1, evZ), (w.heap.size, setL (setL (setL (E) 0 [.int .i64 0]) 1 [.int .i64 0]) 7 [.string ⟨#[]⟩])] := (((hO.store 1 rfl 0 (.int .i64 0)).store 1 rfl 1 (.int .i64 0)).store 1 rfl 7 (.string ⟨#[]⟩))
 clear cf c0 c1 c7
 generalize (((w1.setCell ⟨w.heap.size, 0, none⟩ (.int .i64 0)).setCell ⟨w.heap.size, 1, none⟩ (.int .i64 0)).setCell ⟨w.heap.size, 7, none⟩ (.string ⟨#[]⟩)) = w2 at *
 have hrd : RecL evC w (fun b => b < w.heap.size) (restF 12 fs) (setL (setL (setL (E) 0 [.int .i64 0]) 1 [.int .i64 0]) 7 [.string ⟨#[]⟩]) := by
  have hp := (RecL.put zz7 7 7 evC_ok (RecL.put zz1 1 1 evC_ok (RecL.put zz0 0 0 evC_ok h.rd rfl rfl) rfl rfl) rfl rfl)
  obtain ⟨a, b, c, d, e, f, g, i, j, k, m, n, o, p, q, r, rfl⟩ := sixteen hl16
  exact hp
 have hl2 := (hrd.len evC_ok).1
 generalize setL (setL (setL (E) 0 [.int .i64 0]) 1 [.int .i64 0]) 7 [.string ⟨#[]⟩] = E2 at *
 have hi2 := ev_info (show E2.length = 42 from hl2)
 have hi3 : (Tryz.prog.info? 43).map (·.size) = some E2.toArray.size := by rw [List.size_toArray]; exact hi2
 have h1 := all_oneCell_toArray (hrd.one evC_ok)
 have hR := own_range hO2 1 rfl
 have hT : w2.there (w.heap.size + 1) 0 E2.toArray.size := own_there hO2 0 rfl (by rw [List.size_toArray, show E2.length = 42 from hl2]; decide)
 have hb2 := hO2.below
 have hlt2 := hO2.lt 0
 obtain ⟨o1, o2, o3⟩ := ev_out hb2 hrd hT hlt2
 repeat' (first | (refine wpList_load_mid rfl 43 _ rfl w.heap.size 0 rfl E2 _ hR Tryz.underlying43 rfl hi2 ?_) | (refine wpList_store_mid rfl 43 _ _ rfl (w.heap.size + 1) 0 E2.toArray rfl rfl hT hi3 h1 ?_) | go_skip | go_guarded | go_step)
 refine bodyPost_ret (v := .agg E2.toArray) (run_res_cell 2 43 (w.heap.size + 1) 0 E2 _ rfl rfl o1 Tryz.underlying43 rfl hi2) rfl ?_
 exact ⟨E2, rfl, o2, o3⟩
theorem runused_13 (fs : List FV) (E : List Value) (w : World) (h : EvR w fs E) (hk : fs[0]? = some (fI 13)) : Calls Tryz.prog 25 #[.agg E.toArray] w (RetEv w (restF 13 fs)) := by
 have hE0 := ev_head h hk
 have hl := h.len
 have hl16 := (h.rd.len evC_ok).2
 go_enter Tryz.func25, Tryz.ntmps25
 go_upto_region 1 with (fail)
 generalize hx_ : World.alloc (World.alloc w _) _ = w1
 have hO : OwnB w w1 [(w.heap.size + 1, evZ), (w.heap.size, E)] := by rw [← hx_]; exact ((OwnB.refl w).new E.toArray _ (g := w.heap.size)).new evZ.toArray _ (g := w.heap.size + 1)
 clear hx_
 have c0 := hO.c 1 0 rfl hE0
 have c1 := hO.c 1 1 rfl (getD_at hl (j := 1) (by decide))
 have c7 := hO.c 1 7 rfl (getD_at hl (j := 7) (by decide))
 have cf := hO.fr 1
 go_upto_region 28 with (fail)
 have hO2 : OwnB w ((((w1.setCell ⟨w.heap.size, 0, none⟩ (.int .i64 0)).setCell ⟨w.heap.size, 1, none⟩ (.int .i64 0)).setCell ⟨w.heap.size, 7, none⟩ (.string ⟨#[]⟩))) [(w.heap.size + 1, evZ), (w.heap.size, setL (setL (setL (E) 0 [.int .i64 0]) 1 [.int .i64 0]) 7 [.string ⟨#[]⟩])] := (((hO.store 1 rfl 0 (.int .i64 0)).store 1 rfl 1 (.int .i64 0)).store 1 rfl 7 (.string ⟨#[]⟩))
 clear cf c0 c1 c7
 generalize (((w1.setCell ⟨w.heap.size, 0, none⟩ (.int .i64 0)).setCell ⟨w.heap.size, 1, none⟩ (.int .i64 0)).setCell ⟨w.heap.size, 7, none⟩ (.string ⟨#[]⟩)) = w2 at *
 have hrd : RecL evC w (fun b => b < w.heap.size) (restF 13 fs) (setL (setL (setL (E) 0 [.int .i64 0]) 1 [.int .i64 0]) 7 [.string ⟨#[]⟩]) := by
  have hp := (RecL.put zz7 7 7 evC_ok (RecL.put zz1 1 1 evC_ok (RecL.put zz0 0 0 evC_ok h.rd rfl rfl) rfl rfl) rfl rfl)
  obtain ⟨a, b, c, d, e, f, g, i, j, k, m, n, o, p, q, r, rfl⟩ := sixteen hl16
  exact hp
 have hl2 := (hrd.len evC_ok).1
 generalize setL (setL (setL (E) 0 [.int .i64 0]) 1 [.int .i64 0]) 7 [.string ⟨#[]⟩] = E2 at *
 have hi2 := ev_info (show E2.length = 42 from hl2)
 have hi3 : (Tryz.prog.info? 43).map (·.size) = some E2.toArray.size := by rw [List.size_toArray]; exact hi2
 have h1 := all_oneCell_toArray (hrd.one evC_ok)
 have hR := own_range hO2 1 rfl
 have hT : w2.there (w.heap.size + 1) 0 E2.toArray.size := own_there hO2 0 rfl (by rw [List.size_toArray, show E2.length = 42 from hl2]; decide)
 have hb2 := hO2.below
 have hlt2 := hO2.lt 0
 obtain ⟨o1, o2, o3⟩ := ev_out hb2 hrd hT hlt2
 repeat' (first | (refine wpList_load_mid rfl 43 _ rfl w.heap.size 0 rfl E2 _ hR Tryz.underlying43 rfl hi2 ?_) | (refine wpList_store_mid rfl 43 _ _ rfl (w.heap.size + 1) 0 E2.toArray rfl rfl hT hi3 h1 ?_) | go_skip | go_guarded | go_step)
 refine bodyPost_ret (v := .agg E2.toArray) (run_res_cell 2 43 (w.heap.size + 1) 0 E2 _ rfl rfl o1 Tryz.underlying43 rfl hi2) rfl ?_
 exact ⟨E2, rfl, o2, o3⟩
theorem runused_14 (fs : List FV) (E : List Value) (w : World) (h : EvR w fs E) (hk : fs[0]? = some (fI 14)) : Calls Tryz.prog 25 #[.agg E.toArray] w (RetEv w (restF 14 fs)) := by
 have hE0 := ev_head h hk
 have hl := h.len
 have hl16 := (h.rd.len evC_ok).2
 go_enter Tryz.func25, Tryz.ntmps25
 go_upto_region 1 with (fail)
 generalize hx_ : World.alloc (World.alloc w _) _ = w1
 have hO : OwnB w w1 [(w.heap.size + 1, evZ), (w.heap.size, E)] := by rw [← hx_]; exact ((OwnB.refl w).new E.toArray _ (g := w.heap.size)).new evZ.toArray _ (g := w.heap.size + 1)
 clear hx_
 have c0 := hO.c 1 0 rfl hE0
 have c1 := hO.c 1 1 rfl (getD_at hl (j := 1) (by decide))
 have c29 := hO.c 1 29 rfl (getD_at hl (j := 29) (by decide))
 have c30 := hO.c 1 30 rfl (getD_at hl (j := 30) (by decide))
 have c31 := hO.c 1 31 rfl (getD_at hl (j := 31) (by decide))
 have c32 := hO.c 1 32 rfl (getD_at hl (j := 32) (by decide))
 have c33 := hO.c 1 33 rfl (getD_at hl (j := 33) (by decide))
 have cf := hO.fr 1
 go_upto_region 28 with (fail)
 have hO2 : OwnB w ((((((((w1.setCell ⟨w.heap.size, 0, none⟩ (.int .i64 0)).setCell ⟨w.heap.size, 1, none⟩ (.int .i64 0)).setCell ⟨w.heap.size, 29, none⟩ (.string ⟨#[]⟩)).setCell ⟨w.heap.size, 30, none⟩ (.string ⟨#[]⟩)).setCell ⟨w.heap.size, 31, none⟩ (.int .i64 0)).setCell ⟨w.heap.size, 32, none⟩ (.slice none 0 0)).setCell ⟨w.heap.size, 33, none⟩ (.slice none 0 0))) [(w.heap.size + 1, evZ), (w.heap.size, setL (setL (setL (E) 0 [.int .i64 0]) 1 [.int .i64 0]) 29 [.string ⟨#[]⟩, .string ⟨#[]⟩, .int .i64 0, .slice none 0 0, .slice none 0 0])] := (((((((hO.store 1 rfl 0 (.int .i64 0)).store 1 rfl 1 (.int .i64 0)).store 1 rfl 29 (.string ⟨#[]⟩)).store 1 rfl 30 (.string ⟨#[]⟩)).store 1 rfl 31 (.int .i64 0)).store 1 rfl 32 (.slice none 0 0)).store 1 rfl 33 (.slice none 0 0))
 clear cf c0 c1 c29 c30 c31 c32 c33
 generalize (((((((w1.setCell ⟨w.heap.size, 0, none⟩ (.int .i64 0)).setCell ⟨w.heap.size, 1, none⟩ (.int .i64 0)).setCell ⟨w.heap.size, 29, none⟩ (.string ⟨#[]⟩)).setCell ⟨w.heap.size, 30, none⟩ (.string ⟨#[]⟩)).setCell ⟨w.heap.size, 31, none⟩ (.int .i64 0)).setCell ⟨w.heap.size, 32, none⟩ (.slice none 0 0)).setCell ⟨w.heap.size, 33, none⟩ (.slice none 0 0)) = w2 at *
 have hrd : RecL evC w (fun b => b < w.heap.size) (restF 14 fs) (setL (setL (setL (E) 0 [.int .i64 0]) 1 [.int .i64 0]) 29 [.string ⟨#[]⟩, .string ⟨#[]⟩, .int .i64 0, .slice none 0 0, .slice none 0 0]) := by
  have hp := (RecL.put zz14 14 29 evC_ok (RecL.put zz1 1 1 evC_ok (RecL.put zz0 0 0 evC_ok h.rd rfl rfl) rfl rfl) rfl rfl)
  obtain ⟨a, b, c, d, e, f, g, i, j, k, m, n, o, p, q, r, rfl⟩ := sixteen hl16
  exact hp
 have hl2 := (hrd.len evC_ok).1
 generalize setL (setL (setL (E) 0 [.int .i64 0]) 1 [.int .i64 0]) 29 [.string ⟨#[]⟩, .string ⟨#[]⟩, .int .i64 0, .slice none 0 0, .slice none 0 0] = E2 at *
 have hi2 := ev_info (show E2.length = 42 from hl2)
 have hi3 : (Tryz.prog.info? 43).map (·.size) = some E2.toArray.size := by rw [List.size_toArray]; exact hi2
 have h1 := all_oneCell_toArray (hrd.one evC_ok)
 have hR := own_range hO2 1 rfl
 have hT : w2.there (w.heap.size + 1) 0 E2.toArray.size := own_there hO2 0 rfl (by rw [List.size_toArray, show E2.length = 42 from hl2]; decide)
 have hb2 := hO2.below
 have hlt2 := hO2.lt 0
 obtain ⟨o1, o2, o3⟩ := ev_out hb2 hrd hT hlt2
 repeat' (first | (refine wpList_load_mid rfl 43 _ rfl w.heap.size 0 rfl E2 _ hR Tryz.underlying43 rfl hi2 ?_) | (refine wpList_store_mid rfl 43 _ _ rfl (w.heap.size + 1) 0 E2.toArray rfl rfl hT hi3 h1 ?_) | go_skip | go_guarded | go_step)
 refine bodyPost_ret (v := .agg E2.toArray) (run_res_cell 2 43 (w.heap.size + 1) 0 E2 _ rfl rfl o1 Tryz.underlying43 rfl hi2) rfl ?_
 exact ⟨E2, rfl, o2, o3⟩
theorem runused_15 (fs : List FV) (E : List Value) (w : World) (h : EvR w fs E) (hk : fs[0]? = some (fI 15)) : Calls Tryz.prog 25 #[.agg E.toArray] w (RetEv w (restF 15 fs)) := by
 have hE0 := ev_head h hk
 have hl := h.len
 have hl16 := (h.rd.len evC_ok).2
 go_enter Tryz.func25, Tryz.ntmps25
 go_upto_region 1 with (fail)
 generalize hx_ : World.alloc (World.alloc w _) _ = w1
 have hO : OwnB w w1 [(w.heap.size + 1, evZ), (w.heap.size, E)] := by rw [← hx_]; exact ((OwnB.refl w).new E.toArray _ (g := w.heap.size)).new evZ.toArray _ (g := w.heap.size + 1)
 clear hx_
 have c0 := hO.c 1 0 rfl hE0
 have c1 := hO.c 1 1 rfl (getD_at hl (j := 1) (by decide))
 have c2 := hO.c 1 2 rfl (getD_at hl (j := 2) (by decide))
 have c3 := hO.c 1 3 rfl (getD_at hl (j := 3) (by decide))
 have c5 := hO.c 1 5 rfl (getD_at hl (j := 5) (by decide))
 have c34 := hO.c 1 34 rfl (getD_at hl (j := 34) (by decide))
 have c35 := hO.c 1 35 rfl (getD_at hl (j := 35) (by decide))
 have c36 := hO.c 1 36 rfl (getD_at hl (j := 36) (by decide))
 have c37 := hO.c 1 37 rfl (getD_at hl (j := 37) (by decide))
 have c38 := hO.c 1 38 rfl (getD_at hl (j := 38) (by decide))
 have c39 := hO.c 1 39 rfl (getD_at hl (j := 39) (by decide))
 have c40 := hO.c 1 40 rfl (getD_at hl (j := 40) (by decide))
 have c41 := hO.c 1 41 rfl (getD_at hl (j := 41) (by decide))
 have cf := hO.fr 1
 go_upto_region 28 with (fail)
 have hO2 : OwnB w ((((((((((((((w1.setCell ⟨w.heap.size, 0, none⟩ (.int .i64 0)).setCell ⟨w.heap.size, 1, none⟩ (.int .i64 0)).setCell ⟨w.heap.size, 2, none⟩ (.string ⟨#[]⟩)).setCell ⟨w.heap.size, 3, none⟩ (.string ⟨#[]⟩)).setCell ⟨w.heap.size, 5, none⟩ (.int .i64 0)).setCell ⟨w.heap.size, 34, none⟩ (.string ⟨#[]⟩)).setCell ⟨w.heap.size, 35, none⟩ (.int .i64 0)).setCell ⟨w.heap.size, 36, none⟩ (.string ⟨#[]⟩)).setCell ⟨w.heap.size, 37, none⟩ (.string ⟨#[]⟩)).setCell ⟨w.heap.size, 38, none⟩ (.int .u64 0)).setCell ⟨w.heap.size, 39, none⟩ (.int .i64 0)).setCell ⟨w.heap.size, 40, none⟩ (.int .i64 0)).setCell ⟨w.heap.size, 41, none⟩ (.int .i64 0))) [(w.heap.size + 1, evZ), (w.heap.size, setL (setL (setL (setL (setL (setL (E) 0 [.int .i64 0]) 1 [.int .i64 0]) 2 [.string ⟨#[]⟩]) 3 [.string ⟨#[]⟩]) 5 [.int .i64 0]) 34 [.string ⟨#[]⟩, .int .i64 0, .string ⟨#[]⟩, .string ⟨#[]⟩, .int .u64 0, .int .i64 0, .int .i64 0, .int .i64 0])] := (((((((((((((hO.store 1 rfl 0 (.int .i64 0)).store 1 rfl 1 (.int .i64 0)).store 1 rfl 2 (.string ⟨#[]⟩)).store 1 rfl 3 (.string ⟨#[]⟩)).store 1 rfl 5 (.int .i64 0)).store 1 rfl 34 (.string ⟨#[]⟩)).store 1 rfl 35 (.int .i64 0)).store 1 rfl 36 (.string ⟨#[]⟩)).store 1 rfl 37 (.string ⟨#[]⟩)).store 1 rfl 38 (.int .u64 0)).store 1 rfl 39 (.int .i64 0)).store 1 rfl 40 (.int .i64 0)).store 1 rfl 41 (.int .i64 0))
 clear cf c0 c1 c2 c3 c5 c34 c35 c36 c37 c38 c39 c40 c41
 generalize (((((((((((((w1.setCell ⟨w.heap.size, 0, none⟩ (.int .i64 0)).setCell ⟨w.heap.size, 1, none⟩ (.int .i64 0)).setCell ⟨w.heap.size, 2, none⟩ (.string ⟨#[]⟩)).setCell ⟨w.heap.size, 3, none⟩ (.string ⟨#[]⟩)).setCell ⟨w.heap.size, 5, none⟩ (.int .i64 0)).setCell ⟨w.heap.size, 34, none⟩ (.string ⟨#[]⟩)).setCell ⟨w.heap.size, 35, none⟩ (.int .i64 0)).setCell ⟨w.heap.size, 36, none⟩ (.string ⟨#[]⟩)).setCell ⟨w.heap.size, 37, none⟩ (.string ⟨#[]⟩)).setCell ⟨w.heap.size, 38, none⟩ (.int .u64 0)).setCell ⟨w.heap.size, 39, none⟩ (.int .i64 0)).setCell ⟨w.heap.size, 40, none⟩ (.int .i64 0)).setCell ⟨w.heap.size, 41, none⟩ (.int .i64 0)) = w2 at *
 have hrd : RecL evC w (fun b => b < w.heap.size) (restF 15 fs) (setL (setL (setL (setL (setL (setL (E) 0 [.int .i64 0]) 1 [.int .i64 0]) 2 [.string ⟨#[]⟩]) 3 [.string ⟨#[]⟩]) 5 [.int .i64 0]) 34 [.string ⟨#[]⟩, .int .i64 0, .string ⟨#[]⟩, .string ⟨#[]⟩, .int .u64 0, .int .i64 0, .int .i64 0, .int .i64 0]) := by
  have hp := (RecL.put zz15 15 34 evC_ok (RecL.put zz5 5 5 evC_ok (RecL.put zz3 3 3 evC_ok (RecL.put zz2 2 2 evC_ok (RecL.put zz1 1 1 evC_ok (RecL.put zz0 0 0 evC_ok h.rd rfl rfl) rfl rfl) rfl rfl) rfl rfl) rfl rfl) rfl rfl)
  obtain ⟨a, b, c, d, e, f, g, i, j, k, m, n, o, p, q, r, rfl⟩ := sixteen hl16
  exact hp
 have hl2 := (hrd.len evC_ok).1
 generalize setL (setL (setL (setL (setL (setL (E) 0 [.int .i64 0]) 1 [.int .i64 0]) 2 [.string ⟨#[]⟩]) 3 [.string ⟨#[]⟩]) 5 [.int .i64 0]) 34 [.string ⟨#[]⟩, .int .i64 0, .string ⟨#[]⟩, .string ⟨#[]⟩, .int .u64 0, .int .i64 0, .int .i64 0, .int .i64 0] = E2 at *
 have hi2 := ev_info (show E2.length = 42 from hl2)
 have hi3 : (Tryz.prog.info? 43).map (·.size) = some E2.toArray.size := by rw [List.size_toArray]; exact hi2
 have h1 := all_oneCell_toArray (hrd.one evC_ok)
 have hR := own_range hO2 1 rfl
 have hT : w2.there (w.heap.size + 1) 0 E2.toArray.size := own_there hO2 0 rfl (by rw [List.size_toArray, show E2.length = 42 from hl2]; decide)
 have hb2 := hO2.below
 have hlt2 := hO2.lt 0
 obtain ⟨o1, o2, o3⟩ := ev_out hb2 hrd hT hlt2
 repeat' (first | (refine wpList_load_mid rfl 43 _ rfl w.heap.size 0 rfl E2 _ hR Tryz.underlying43 rfl hi2 ?_) | (refine wpList_store_mid rfl 43 _ _ rfl (w.heap.size + 1) 0 E2.toArray rfl rfl hT hi3 h1 ?_) | go_skip | go_guarded | go_step)
 refine bodyPost_ret (v := .agg E2.toArray) (run_res_cell 2 43 (w.heap.size + 1) 0 E2 _ rfl rfl o1 Tryz.underlying43 rfl hi2) rfl ?_
 exact ⟨E2, rfl, o2, o3⟩
theorem runused_any (k : Nat) (h0 : 1 ≤ k) (h1 : k ≤ 15) (fs : List FV) (E : List Value) (w : World) (h : EvR w fs E) (hk : fs[0]? = some (fI (k : Int))) : Calls Tryz.prog 25 #[.agg E.toArray] w (RetEv w (restF k fs)) := by
 match k, h0, h1, hk with
 | 1, _, _, hk => exact runused_1 fs E w h hk
 | 2, _, _, hk => exact runused_2 fs E w h hk
 | 3, _, _, hk => exact runused_3 fs E w h hk
 | 4, _, _, hk => exact runused_4 fs E w h hk
 | 5, _, _, hk => exact runused_5 fs E w h hk
 | 6, _, _, hk => exact runused_6 fs E w h hk
 | 7, _, _, hk => exact runused_7 fs E w h hk
 | 8, _, _, hk => exact runused_8 fs E w h hk
 | 9, _, _, hk => exact runused_9 fs E w h hk
 | 10, _, _, hk => exact runused_10 fs E w h hk
 | 11, _, _, hk => exact runused_11 fs E w h hk
 | 12, _, _, hk => exact runused_12 fs E w h hk
 | 13, _, _, hk => exact runused_13 fs E w h hk
 | 14, _, _, hk => exact runused_14 fs E w h hk
 | 15, _, _, hk => exact runused_15 fs E w h hk
end Go.Proofs.YtgdapkglofchjaaGreatDoor
