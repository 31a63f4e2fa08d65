/- Deploy: Rollback. -/
import Derived.Test.YtennhjkhjplmoaaDoorDpCu
namespace Go.Proofs.YtennhjkhjplmoaaDoor
open Go.RowKit
set_option maxRecDepth 100000 in
set_option maxHeartbeats 4000000 in
theorem rollback_any (l : List Env) (s : ByteArray) (A : Option Addr) (n c : Nat) (w : World) (h : Envs w A n c l) :
    Calls Tryd.prog 28 #[.slice A n c, .string s] w fun e w' => e = .returned (.tuple #[.agg #[.string (backL l s).1.ref.run, .string (backL l s).1.ref.job, .int .u64 (backL l s).1.ver, .int .i64 (backL l s).1.at_, .int .i64 (backL l s).1.st], .bool (backL l s).2]) ∧ Below w.heap.size w w' := by
  go_enter Tryd.func28, Tryd.ntmps28
  have hE0 := h
  go_upto_region 1 with (fail)
  generalize hx_ : World.alloc w _ = wo1
  have hO1 : OwnB w wo1 [(w.heap.size, [.string ⟨#[]⟩, .string ⟨#[]⟩, .int .u64 0, .int .i64 0, .int .i64 0])] := by rw [← hx_]; exact (OwnB.refl w).new #[.string ⟨#[]⟩, .string ⟨#[]⟩, .int .u64 0, .int .i64 0, .int .i64 0] _ (g := w.heap.size)
  have hbn : Below w.heap.size w wo1 := by rw [← hx_]; exact (Below.refl _ _).alloc (Nat.le_refl _) _
  have zwo1 : w.heap.size + 0 < wo1.heap.size := by rw [← hx_]; simp <;> omega
  clear hx_
  have c0_0 : wo1.cell? ⟨w.heap.size, 0, none⟩ = some (.string ⟨#[]⟩) := hO1.c 0 0
  have c0_1 : wo1.cell? ⟨w.heap.size, 1, none⟩ = some (.string ⟨#[]⟩) := hO1.c 0 1
  have c0_2 : wo1.cell? ⟨w.heap.size, 2, none⟩ = some (.int .u64 0) := hO1.c 0 2
  have c0_3 : wo1.cell? ⟨w.heap.size, 3, none⟩ = some (.int .i64 0) := hO1.c 0 3
  have c0_4 : wo1.cell? ⟨w.heap.size, 4, none⟩ = some (.int .i64 0) := hO1.c 0 4
  have cf0 := hO1.fr 0
  replace hE0 : Envs wo1 A n c l := hE0.below hbn
  clear hbn
  have C := history_any l s A n c wo1 hE0
  have hm : backL l s = depAt (histOf l s) (backI (histOf l s)) := rfl
  have hbk : backI (histOf l s) = if curI (histOf l s) < 0 then -1 else lastI (fun d => !(d.ver == (depAt (histOf l s) (curI (histOf l s))).1.ver)) (histOf l s) (curI (histOf l s)).toNat := rfl
  have hlo := lastI_lo (fun _ => true) (histOf l s) (histOf l s).length
  have hhi := lastI_hi (fun _ => true) (histOf l s) (histOf l s).length
  rw [show lastI (fun _ => true) (histOf l s) (histOf l s).length = curI (histOf l s) from rfl] at hlo hhi
  generalize curI (histOf l s) = q at *
  generalize histOf l s = H at *
  replace C := Lib.hid C
  repeat' ((fail_if_success at_builtin); (first | go_skip | go_guarded | go_step))
  refine C.out.mono ?_
  clear C
  rintro e w2 ⟨A', n', c', rfl, hb2, hD⟩
  dsimp only
  have zw2 := hb2.size
  have hO2 : OwnB w w2 [(w.heap.size, [.string ⟨#[]⟩, .string ⟨#[]⟩, .int .u64 0, .int .i64 0, .int .i64 0])] := hO1.kept hb2
  clear c0_0 c0_1 c0_2 c0_3 c0_4 cf0 hO1
  have c0_0 : w2.cell? ⟨w.heap.size, 0, none⟩ = some (.string ⟨#[]⟩) := hO2.c 0 0
  have c0_1 : w2.cell? ⟨w.heap.size, 1, none⟩ = some (.string ⟨#[]⟩) := hO2.c 0 1
  have c0_2 : w2.cell? ⟨w.heap.size, 2, none⟩ = some (.int .u64 0) := hO2.c 0 2
  have c0_3 : w2.cell? ⟨w.heap.size, 3, none⟩ = some (.int .i64 0) := hO2.c 0 3
  have c0_4 : w2.cell? ⟨w.heap.size, 4, none⟩ = some (.int .i64 0) := hO2.c 0 4
  have cf0 := hO2.fr 0
  replace hE0 : Envs w2 A n c l := hE0.below hb2
  by_cases hq : q < 0
  · have hm2 : backL l s = (zD, false) := by rw [hm, hbk, if_pos hq]; exact depAt_out (by omega)
    replace hm2 := Lib.hid hm2
    have hq0 : ¬ (0 : Int) ≤ q := by omega
    clear hm hbk hD
    repeat' ((fail_if_success at_builtin); (first | go_skip | go_guarded | go_step))
    generalize hx_ : World.setCell (World.setCell (World.setCell (World.setCell (World.setCell _ _ _) _ _) _ _) _ _) _ _ = wo3
    have hO3 : OwnB w wo3 [(w.heap.size, [.string ⟨#[]⟩, .string ⟨#[]⟩, .int .u64 0, .int .i64 0, .int .i64 0])] := by rw [← hx_]; exact ((((hO2.store 0 rfl 0 _).store 0 rfl 1 _).store 0 rfl 2 _).store 0 rfl 3 _).store 0 rfl 4 _
    have zwo3 : wo3.heap.size = w2.heap.size := by rw [← hx_]; simp [World.setCell]
    clear hx_ c0_0 c0_1 c0_2 c0_3 c0_4 cf0 hO2
    have c0_0 : wo3.cell? ⟨w.heap.size, 0, none⟩ = some (.string ⟨#[]⟩) := hO3.c 0 0
    have c0_1 : wo3.cell? ⟨w.heap.size, 1, none⟩ = some (.string ⟨#[]⟩) := hO3.c 0 1
    have c0_2 : wo3.cell? ⟨w.heap.size, 2, none⟩ = some (.int .u64 0) := hO3.c 0 2
    have c0_3 : wo3.cell? ⟨w.heap.size, 3, none⟩ = some (.int .i64 0) := hO3.c 0 3
    have c0_4 : wo3.cell? ⟨w.heap.size, 4, none⟩ = some (.int .i64 0) := hO3.c 0 4
    have cf0 := hO3.fr 0
    refine bodyPost_ret (v := .tuple #[.agg #[.string ⟨#[]⟩, .string ⟨#[]⟩, .int .u64 0, .int .i64 0, .int .i64 0], .bool false]) (by simp only [results, Tryd.results28]; go_simp; first | done | exact ⟨rfl, rfl, rfl⟩ | rfl) rfl ?_
    exact ⟨by rw [hm2.out] <;> rfl, hO3.below⟩
  · have hq0 : (0 : Int) ≤ q := by omega
    obtain ⟨k, rfl⟩ : ∃ k : Nat, q = (k : Int) := ⟨q.toNat, by omega⟩
    have hn := hD.rd.1
    obtain ⟨x, hx⟩ : ∃ x, H[k]? = some x := ⟨_, List.getElem?_eq_getElem (by omega)⟩
    rw [if_neg hq, depAt_in hx, Int.toNat_natCast] at hbk
    dsimp only at hbk
    rw [hbk] at hm
    clear hbk
    obtain ⟨g, o, rfl, hg, hS⟩ := dep_at hD.rd hx
    have e1v := hS.e2
    have i0 : (0 : Int) ≤ (k : Int) := by omega
    have i1 : (k : Int) < (n' : Int) := by omega
    clear hS hx
    go_upto_region 4 with (fail)
    generalize hx_ : World.alloc w2 _ = wo3
    have hO3 : OwnB w wo3 [(w2.heap.size, [.int .u64 x.ver]), (w.heap.size, [.string ⟨#[]⟩, .string ⟨#[]⟩, .int .u64 0, .int .i64 0, .int .i64 0])] := by rw [← hx_]; exact hO2.new #[.int .u64 x.ver] _ (g := w2.heap.size)
    have hbn : Below w2.heap.size w2 wo3 := by rw [← hx_]; exact (Below.refl _ _).alloc (Nat.le_refl _) _
    have zwo3 : w2.heap.size + 0 < wo3.heap.size := by rw [← hx_]; simp <;> omega
    clear hx_ c0_0 c0_1 c0_2 c0_3 c0_4 cf0 hO2
    have c0_0 : wo3.cell? ⟨w2.heap.size, 0, none⟩ = some (.int .u64 x.ver) := hO3.c 0 0
    have cf0 := hO3.fr 0
    have c1_0 : wo3.cell? ⟨w.heap.size, 0, none⟩ = some (.string ⟨#[]⟩) := hO3.c 1 0
    have c1_1 : wo3.cell? ⟨w.heap.size, 1, none⟩ = some (.string ⟨#[]⟩) := hO3.c 1 1
    have c1_2 : wo3.cell? ⟨w.heap.size, 2, none⟩ = some (.int .u64 0) := hO3.c 1 2
    have c1_3 : wo3.cell? ⟨w.heap.size, 3, none⟩ = some (.int .i64 0) := hO3.c 1 3
    have c1_4 : wo3.cell? ⟨w.heap.size, 4, none⟩ = some (.int .i64 0) := hO3.c 1 4
    have cf1 := hO3.fr 1
    replace hE0 : Envs wo3 A n c l := hE0.below hbn
    replace hD : Deps wo3 (some ⟨g, o, none⟩) n' c' H := hD.below hbn
    clear hbn
    have zb : w2.heap.size < wo3.heap.size := by omega
    have C := last_any 62 w2.heap.size (enters_of Tryd.func62 (by kernel_rfl) rfl) (fun d => !(d.ver == x.ver)) H (some ⟨g, o, none⟩) n' c' k wo3 hD (by omega) (fun y _ w' hb => roll1_any y x.ver w2.heap.size w' ((hb.cell (p := ⟨w2.heap.size, 0, none⟩) zb).trans c0_0))
    have hlo2 := lastI_lo (fun d => !(d.ver == x.ver)) H k
    have hhi2 := lastI_hi (fun d => !(d.ver == x.ver)) H k
    generalize lastI (fun d => !(d.ver == x.ver)) H k = q2 at *
    replace C := Lib.hid C
    repeat' ((fail_if_success at_builtin); (first | go_skip | go_guarded | go_step))
    refine C.out.mono ?_
    clear C
    rintro e w5 ⟨rfl, hb5⟩
    dsimp only
    have zw5 := hb5.size
    have hO4 : OwnB w w5 [(w2.heap.size, [.int .u64 x.ver]), (w.heap.size, [.string ⟨#[]⟩, .string ⟨#[]⟩, .int .u64 0, .int .i64 0, .int .i64 0])] := hO3.kept hb5
    clear c0_0 cf0 c1_0 c1_1 c1_2 c1_3 c1_4 cf1 hO3
    have c0_0 : w5.cell? ⟨w2.heap.size, 0, none⟩ = some (.int .u64 x.ver) := hO4.c 0 0
    have cf0 := hO4.fr 0
    have c1_0 : w5.cell? ⟨w.heap.size, 0, none⟩ = some (.string ⟨#[]⟩) := hO4.c 1 0
    have c1_1 : w5.cell? ⟨w.heap.size, 1, none⟩ = some (.string ⟨#[]⟩) := hO4.c 1 1
    have c1_2 : w5.cell? ⟨w.heap.size, 2, none⟩ = some (.int .u64 0) := hO4.c 1 2
    have c1_3 : w5.cell? ⟨w.heap.size, 3, none⟩ = some (.int .i64 0) := hO4.c 1 3
    have c1_4 : w5.cell? ⟨w.heap.size, 4, none⟩ = some (.int .i64 0) := hO4.c 1 4
    have cf1 := hO4.fr 1
    replace hE0 : Envs w5 A n c l := hE0.below hb5
    replace hD : Deps w5 (some ⟨g, o, none⟩) n' c' H := hD.below hb5
    by_cases hq3 : q2 < 0
    · have hm2 : backL l s = (zD, false) := by rw [hm]; exact depAt_out hq3
      replace hm2 := Lib.hid hm2
      clear hm hD
      repeat' ((fail_if_success at_builtin); (first | go_skip | go_guarded | go_step))
      generalize hx_ : World.setCell (World.setCell (World.setCell (World.setCell (World.setCell _ _ _) _ _) _ _) _ _) _ _ = wo5
      have hO5 : OwnB w wo5 [(w2.heap.size, [.int .u64 x.ver]), (w.heap.size, [.string ⟨#[]⟩, .string ⟨#[]⟩, .int .u64 0, .int .i64 0, .int .i64 0])] := by rw [← hx_]; exact ((((hO4.store 1 rfl 0 _).store 1 rfl 1 _).store 1 rfl 2 _).store 1 rfl 3 _).store 1 rfl 4 _
      have zwo5 : wo5.heap.size = w5.heap.size := by rw [← hx_]; simp [World.setCell]
      clear hx_ c0_0 cf0 c1_0 c1_1 c1_2 c1_3 c1_4 cf1 hO4
      have c0_0 : wo5.cell? ⟨w2.heap.size, 0, none⟩ = some (.int .u64 x.ver) := hO5.c 0 0
      have cf0 := hO5.fr 0
      have c1_0 : wo5.cell? ⟨w.heap.size, 0, none⟩ = some (.string ⟨#[]⟩) := hO5.c 1 0
      have c1_1 : wo5.cell? ⟨w.heap.size, 1, none⟩ = some (.string ⟨#[]⟩) := hO5.c 1 1
      have c1_2 : wo5.cell? ⟨w.heap.size, 2, none⟩ = some (.int .u64 0) := hO5.c 1 2
      have c1_3 : wo5.cell? ⟨w.heap.size, 3, none⟩ = some (.int .i64 0) := hO5.c 1 3
      have c1_4 : wo5.cell? ⟨w.heap.size, 4, none⟩ = some (.int .i64 0) := hO5.c 1 4
      have cf1 := hO5.fr 1
      refine bodyPost_ret (v := .tuple #[.agg #[.string ⟨#[]⟩, .string ⟨#[]⟩, .int .u64 0, .int .i64 0, .int .i64 0], .bool false]) (by simp only [results, Tryd.results28]; go_simp; first | done | exact ⟨rfl, rfl, rfl⟩ | rfl) rfl ?_
      exact ⟨by rw [hm2.out] <;> rfl, hO5.below⟩
    · obtain ⟨k2, rfl⟩ : ∃ k : Nat, q2 = (k : Int) := ⟨q2.toNat, by omega⟩
      obtain ⟨y, hy⟩ : ∃ y, H[k2]? = some y := ⟨_, List.getElem?_eq_getElem (by omega)⟩
      have hm2 : backL l s = (y, true) := by rw [hm]; exact depAt_in hy
      replace hm2 := Lib.hid hm2
      obtain ⟨g2, o2, hA2, hg2, hS2⟩ := dep_at hD.rd hy
      injection hA2 with hA2
      injection hA2 with a1 a2
      subst a1 a2
      have e0 := hS2.e0
      have e1 := hS2.e1
      have e2 := hS2.e2
      have e3 := hS2.e3
      have e4 := hS2.e4
      have i3 : (0 : Int) ≤ (k2 : Int) := by omega
      have i4 : (k2 : Int) < (n' : Int) := by omega
      clear hm hD hS2 hy hlo2 hhi2 hn
      repeat' ((fail_if_success at_builtin); (first | go_skip | go_guarded | go_step))
      generalize hx_ : World.setCell (World.setCell (World.setCell (World.setCell (World.setCell _ _ _) _ _) _ _) _ _) _ _ = wo5
      have hO5 : OwnB w wo5 [(w2.heap.size, [.int .u64 x.ver]), (w.heap.size, [.string y.ref.run, .string y.ref.job, .int .u64 y.ver, .int .i64 y.at_, .int .i64 y.st])] := by rw [← hx_]; exact ((((hO4.store 1 rfl 0 _).store 1 rfl 1 _).store 1 rfl 2 _).store 1 rfl 3 _).store 1 rfl 4 _
      have zwo5 : wo5.heap.size = w5.heap.size := by rw [← hx_]; simp [World.setCell]
      clear hx_ c0_0 cf0 c1_0 c1_1 c1_2 c1_3 c1_4 cf1 hO4
      have c0_0 : wo5.cell? ⟨w2.heap.size, 0, none⟩ = some (.int .u64 x.ver) := hO5.c 0 0
      have cf0 := hO5.fr 0
      have c1_0 : wo5.cell? ⟨w.heap.size, 0, none⟩ = some (.string y.ref.run) := hO5.c 1 0
      have c1_1 : wo5.cell? ⟨w.heap.size, 1, none⟩ = some (.string y.ref.job) := hO5.c 1 1
      have c1_2 : wo5.cell? ⟨w.heap.size, 2, none⟩ = some (.int .u64 y.ver) := hO5.c 1 2
      have c1_3 : wo5.cell? ⟨w.heap.size, 3, none⟩ = some (.int .i64 y.at_) := hO5.c 1 3
      have c1_4 : wo5.cell? ⟨w.heap.size, 4, none⟩ = some (.int .i64 y.st) := hO5.c 1 4
      have cf1 := hO5.fr 1
      refine bodyPost_ret (v := .tuple #[.agg #[.string y.ref.run, .string y.ref.job, .int .u64 y.ver, .int .i64 y.at_, .int .i64 y.st], .bool true]) (by simp only [results, Tryd.results28]; go_simp; first | done | exact ⟨rfl, rfl, rfl⟩ | rfl) rfl ?_
      exact ⟨by rw [hm2.out] <;> rfl, hO5.below⟩
end Go.Proofs.YtennhjkhjplmoaaDoor
