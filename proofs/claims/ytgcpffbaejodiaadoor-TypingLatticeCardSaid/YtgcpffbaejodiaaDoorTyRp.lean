/- Typing: the document's Parse. -/
import Derived.Test.YtgcpffbaejodiaaDoorTyRd
namespace Go.Proofs.YtgcpffbaejodiaaDoor
open Go.RowKit
set_option maxRecDepth 100000 in
set_option maxHeartbeats 6000000 in
theorem rparse_any (s : ByteArray) (w : World) : Calls Tryd.prog 27 #[.string s] w fun e w' => RetP w (parseV s.data.toList) (parseE s.data.toList) e w' := by
 have hsl := list_size s
 obtain ⟨pv, hpv⟩ : ∃ pv, pv = parseV s.data.toList := ⟨_, rfl⟩
 obtain ⟨pe, hpe⟩ : ∃ pe, pe = parseE s.data.toList := ⟨_, rfl⟩
 rw [← hpv, ← hpe]
 replace hpv := Lib.hid hpv
 replace hpe := Lib.hid hpe
 by_cases hl : 4096 < s.data.toList.length
 ·
  have gl : (4096 : Int) < (s.size : Int) := by omega
  go_enter Tryd.func27, Tryd.ntmps27
  go_upto_region 1 with (fail)
  generalize hx_ : World.alloc w _ = wo1
  have hO1 : OwnB w wo1 [(w.heap.size, [.int .i64 0, .slice none 0 0])] := by rw [← hx_]; exact (OwnB.refl w).new #[.int .i64 0, .slice none 0 0] _ (g := w.heap.size)
  clear hx_
  have c0_0 := hO1.c 0 0
  have c0_1 := hO1.c 0 1
  have cf0 := hO1.fr 0
  replace hl := Lib.hid hl
  repeat' ((fail_if_success at_builtin); (first | go_skip | go_guarded | go_step))
  generalize hx_ : World.setCell (World.setCell _ _ _) _ _ = wo2
  have hO2 : OwnB w wo2 [(w.heap.size, [.int .i64 0, .slice none 0 0])] := by rw [← hx_]; exact (hO1.store 0 rfl 0 _).store 0 rfl 1 _
  clear hx_ c0_0 c0_1 cf0 hO1
  have c0_0 := hO2.c 0 0
  have c0_1 := hO2.c 0 1
  have cf0 := hO2.fr 0
  have hb := hO2.below
  refine bodyPost_ret (v := .tuple #[.agg #[.int .i64 0, .slice none 0 0], .int .i64 3]) (by simp only [results, Tryd.results27]; go_simp; first | done | exact ⟨rfl, rfl, rfl⟩ | rfl) rfl ?_
  exact retP_zero (by rw [hpv.out]; exact parseV_long hl.out) (by rw [hpe.out]; exact parseE_long hl.out) hb rfl
 have gl : ¬ (4096 : Int) < (s.size : Int) := by omega
 go_enter Tryd.func27, Tryd.ntmps27
 go_upto_region 1 with (fail)
 generalize hx_ : World.alloc w _ = wo1
 have hO1 : OwnB w wo1 [(w.heap.size, [.int .i64 0, .slice none 0 0])] := by rw [← hx_]; exact (OwnB.refl w).new #[.int .i64 0, .slice none 0 0] _ (g := w.heap.size)
 clear hx_
 have c0_0 := hO1.c 0 0
 have c0_1 := hO1.c 0 1
 have cf0 := hO1.fr 0
 have hl9 : s.size ≤ 100000 := by omega
 replace hl := Lib.hid hl
 repeat' ((fail_if_success at_builtin); (first | go_skip | go_guarded | go_step))
 have IH := read_any (s.size + 1) s wo1 (by omega) hl9
 generalize hp : VT.parse s.data.toList = op at IH
 replace hp := Lib.hid hp
 refine IH.mono ?_
 clear IH
 rintro e8 w8 ⟨A8, n8, c8, rfl, hr8, hb8⟩
 dsimp only
 have hlo := hO1.lt 0
 have hO2 : OwnB w w8 [(w.heap.size, [.int .i64 0, .slice none 0 0])] := hO1.kept hb8
 clear c0_0 c0_1 cf0 hO1
 have c0_0 := hO2.c 0 0
 have c0_1 := hO2.c 0 1
 have cf0 := hO2.fr 0
 cases op with
 | none =>
  dsimp only [Option.getD, Option.isSome]
  go_upto_region 4 with (fail)
  generalize hx_ : World.alloc w8 _ = wo3
  have hO3 : OwnB w wo3 [(w8.heap.size, [.int .i64 ((VT.base 0).kind : Int), .slice A8 n8 c8]), (w.heap.size, [.int .i64 0, .slice none 0 0])] := by rw [← hx_]; exact hO2.new #[.int .i64 ((VT.base 0).kind : Int), .slice A8 n8 c8] _ (g := w8.heap.size)
  clear hx_ c0_0 c0_1 cf0 hO2
  have c0_0 := hO3.c 0 0
  have c0_1 := hO3.c 0 1
  have cf0 := hO3.fr 0
  have c1_0 := hO3.c 1 0
  have c1_1 := hO3.c 1 1
  have cf1 := hO3.fr 1
  repeat' ((fail_if_success at_builtin); (first | go_skip | go_guarded | go_step))
  generalize hx_ : World.setCell (World.setCell _ _ _) _ _ = wo4
  have hO4 : OwnB w wo4 [(w8.heap.size, [.int .i64 ((VT.base 0).kind : Int), .slice A8 n8 c8]), (w.heap.size, [.int .i64 0, .slice none 0 0])] := by rw [← hx_]; exact (hO3.store 1 rfl 0 _).store 1 rfl 1 _
  clear hx_ c0_0 c0_1 cf0 c1_0 c1_1 cf1 hO3
  have c0_0 := hO4.c 0 0
  have c0_1 := hO4.c 0 1
  have cf0 := hO4.fr 0
  have c1_0 := hO4.c 1 0
  have c1_1 := hO4.c 1 1
  have cf1 := hO4.fr 1
  have hb := hO4.below
  refine bodyPost_ret (v := .tuple #[.agg #[.int .i64 0, .slice none 0 0], .int .i64 5]) (by simp only [results, Tryd.results27]; go_simp; first | done | exact ⟨rfl, rfl, rfl⟩ | rfl) rfl ?_
  exact retP_zero (by rw [hpv.out]; exact parseV_none hp.out) (by rw [hpe.out]; exact parseE_none hl.out hp.out) hb rfl
 | some v =>
  dsimp only [Option.getD, Option.isSome]
  go_upto_region 4 with (fail)
  generalize hx_ : World.alloc w8 _ = wo3
  have hO3 : OwnB w wo3 [(w8.heap.size, [.int .i64 (v.kind : Int), .slice A8 n8 c8]), (w.heap.size, [.int .i64 0, .slice none 0 0])] := by rw [← hx_]; exact hO2.new #[.int .i64 (v.kind : Int), .slice A8 n8 c8] _ (g := w8.heap.size)
  have hbx : Below w8.heap.size w8 wo3 := by rw [← hx_]; exact (Below.refl _ _).alloc (Nat.le_refl _) _
  clear hx_ c0_0 c0_1 cf0 hO2
  have c0_0 := hO3.c 0 0
  have c0_1 := hO3.c 0 1
  have cf0 := hO3.fr 0
  have c1_0 := hO3.c 1 0
  have c1_1 := hO3.c 1 1
  have cf1 := hO3.fr 1
  have hok := VT.parse_ok hp.out
  have hrx := RV.at_ hr8 (fun b h => h.2) hbx
  have hty := RV.ty (hrx.imp (fun b (h : wo1.heap.size ≤ b ∧ b < w8.heap.size) => Nat.lt_of_lt_of_le h.2 hbx.size))
  have hvv := valid_of hok
  replace hty := Lib.hid hty
  repeat' ((fail_if_success at_builtin); (first | go_skip | go_guarded | go_step))
  refine (rvalid_any v.depth (ofV v) (v.kind : Int) A8 n8 c8 _ hty.out).mono ?_
  rintro e9 w9 ⟨rfl, hb9⟩
  have hrx9 := (RV.at_ hr8 (fun b h => h.2) hbx).map (fun p hp => hb9.cell (Nat.lt_of_lt_of_le hp.2 hbx.size)) (fun b (h : wo1.heap.size ≤ b ∧ b < w8.heap.size) => h)
  have hbs := hbx.size
  have hbs9 := hb9.size
  replace hrx9 := Lib.hid hrx9
  clear hrx hr8
  by_cases hd : v.depth ≤ 16
  ·
   rw [hvv, if_pos hd]
   dsimp only
   have hO4 : OwnB w w9 [(w8.heap.size, [.int .i64 (v.kind : Int), .slice A8 n8 c8]), (w.heap.size, [.int .i64 0, .slice none 0 0])] := hO3.kept hb9
   clear c0_0 c0_1 cf0 c1_0 c1_1 cf1 hO3
   have c0_0 := hO4.c 0 0
   have c0_1 := hO4.c 0 1
   have cf0 := hO4.fr 0
   have c1_0 := hO4.c 1 0
   have c1_1 := hO4.c 1 1
   have cf1 := hO4.fr 1
   repeat' ((fail_if_success at_builtin); (first | go_skip | go_guarded | go_step))
   have hr9 := RV.set2 (g := w.heap.size) (.int .i64 (v.kind : Int)) (.slice A8 n8 c8) (fun b h => by have := h.1; omega) hrx9.out
   have hs9 : ((w9.setCell ⟨w.heap.size, 0, none⟩ (.int .i64 (v.kind : Int))).setCell ⟨w.heap.size, 1, none⟩ (.slice A8 n8 c8)).heap.size = w9.heap.size := by simp [World.setCell]
   generalize hx_ : World.setCell (World.setCell _ _ _) _ _ = wo5 at hr9 hs9 ⊢
   have hO5 : OwnB w wo5 [(w8.heap.size, [.int .i64 (v.kind : Int), .slice A8 n8 c8]), (w.heap.size, [.int .i64 (v.kind : Int), .slice A8 n8 c8])] := by rw [← hx_]; exact (hO4.store 1 rfl 0 _).store 1 rfl 1 _
   clear hx_ c0_0 c0_1 cf0 c1_0 c1_1 cf1 hO4
   have c0_0 := hO5.c 0 0
   have c0_1 := hO5.c 0 1
   have cf0 := hO5.fr 0
   have c1_0 := hO5.c 1 0
   have c1_1 := hO5.c 1 1
   have cf1 := hO5.fr 1
   have hb := hO5.below
   refine bodyPost_ret (v := .tuple #[.agg #[.int .i64 (v.kind : Int), .slice A8 n8 c8], .int .i64 0]) (by simp only [results, Tryd.results27]; go_simp; first | done | exact ⟨rfl, rfl, rfl⟩ | rfl) rfl ?_
   have e1 : pv = v := by rw [hpv.out]; exact parseV_some hl.out hp.out hd
   have e2 : pe = 0 := by rw [hpe.out]; exact parseE_some hl.out hp.out hd
   rw [e1, e2]
   exact ⟨A8, n8, c8, rfl, hr9.imp (fun b h => ⟨by have := h.1; omega, by have := h.2; omega⟩), hb⟩
  ·
   rw [hvv, if_neg hd]
   dsimp only
   replace hd := Lib.hid hd
   have hO4 : OwnB w w9 [(w8.heap.size, [.int .i64 (v.kind : Int), .slice A8 n8 c8]), (w.heap.size, [.int .i64 0, .slice none 0 0])] := hO3.kept hb9
   clear c0_0 c0_1 cf0 c1_0 c1_1 cf1 hO3
   have c0_0 := hO4.c 0 0
   have c0_1 := hO4.c 0 1
   have cf0 := hO4.fr 0
   have c1_0 := hO4.c 1 0
   have c1_1 := hO4.c 1 1
   have cf1 := hO4.fr 1
   repeat' ((fail_if_success at_builtin); (first | go_skip | go_guarded | go_step))
   generalize hx_ : World.setCell (World.setCell _ _ _) _ _ = wo5
   have hO5 : OwnB w wo5 [(w8.heap.size, [.int .i64 (v.kind : Int), .slice A8 n8 c8]), (w.heap.size, [.int .i64 0, .slice none 0 0])] := by rw [← hx_]; exact (hO4.store 1 rfl 0 _).store 1 rfl 1 _
   clear hx_ c0_0 c0_1 cf0 c1_0 c1_1 cf1 hO4
   have c0_0 := hO5.c 0 0
   have c0_1 := hO5.c 0 1
   have cf0 := hO5.fr 0
   have c1_0 := hO5.c 1 0
   have c1_1 := hO5.c 1 1
   have cf1 := hO5.fr 1
   have hb := hO5.below
   refine bodyPost_ret (v := .tuple #[.agg #[.int .i64 0, .slice none 0 0], .int .i64 13]) (by simp only [results, Tryd.results27]; go_simp; first | done | exact ⟨rfl, rfl, rfl⟩ | rfl) rfl ?_
   exact retP_zero (by rw [hpv.out]; exact parseV_deep hp.out hd.out) (by rw [hpe.out]; exact parseE_deep hl.out hp.out hd.out) hb rfl
end Go.Proofs.YtgcpffbaejodiaaDoor
