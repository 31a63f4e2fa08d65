/- Deploy: Locks: fits. -/
import Derived.Test.YtennhjkhjplmoaaDoorDpT1
import Derived.Test.YtennhjkhjplmoaaDoorDpMy
namespace Go.Proofs.YtennhjkhjplmoaaDoor
open Go.RowKit
set_option maxRecDepth 100000 in
set_option maxHeartbeats 4000000 in
theorem fits_any (l : List Env) (s : ByteArray) (t : Turn) (A : Option Addr) (n c : Nat) (A1 : Option Addr) (c1 : Nat) (A2 : Option Addr) (c2 : Nat) (w : World) (h : Envs w A n c l) (h1 : RSlice rB 1 w (fun b => b < w.heap.size) A1 t.waiting.length c1 t.waiting) (hl1 : t.waiting.length ≤ 1000000)
    (hf : (∀ x, l[posA (nameE s) l]? = some x → x.holder.job = t.holder ∧ x.waiting = t.waiting.map rOf ∧ x.history.length ≤ t.held.length) ∧ (l[posA (nameE s) l]? = none → t.holder = bE ∧ t.waiting = [])) :
    Calls Tryd.prog 25 #[.slice A n c, .string s, .agg #[.string t.holder, .slice A1 t.waiting.length c1, .slice A2 t.held.length c2]] w fun e w' => e = .returned (.bool true) ∧ Below w.heap.size w w' := by
  go_enter Tryd.func25, Tryd.ntmps25
  have hn := h.n
  go_upto_region 1 with (fail)
  generalize hx_ : World.alloc w _ = wo1
  have hO1 : OwnB w wo1 [(w.heap.size, [.string t.holder, .slice A1 t.waiting.length c1, .slice A2 t.held.length c2])] := by rw [← hx_]; exact (OwnB.refl w).new #[.string t.holder, .slice A1 t.waiting.length c1, .slice A2 t.held.length c2] _ (g := w.heap.size)
  have hbn : Below w.heap.size w wo1 := by rw [← hx_]; exact (Below.refl _ _).alloc (Nat.le_refl _) _
  have zwo1 : w.heap.size + 0 < wo1.heap.size := by rw [← hx_]; simp <;> omega
  clear hx_
  have c0_0 : wo1.cell? ⟨w.heap.size, 0, none⟩ = some (.string t.holder) := hO1.c 0 0
  have c0_1 : wo1.cell? ⟨w.heap.size, 1, none⟩ = some (.slice A1 t.waiting.length c1) := hO1.c 0 1
  have c0_2 : wo1.cell? ⟨w.heap.size, 2, none⟩ = some (.slice A2 t.held.length c2) := hO1.c 0 2
  have cf0 := hO1.fr 0
  clear hbn
  have hbz := hO1.below
  have C := rindex_any l s A n c wo1 (h.below hbz)
  by_cases hk : posA (nameE s) l < l.length
  · rw [posI_in hk] at C
    obtain ⟨x, hx⟩ : ∃ x, l[posA (nameE s) l]? = some x := ⟨_, List.getElem?_eq_getElem hk⟩
    obtain ⟨f1, f2, f3⟩ := hf.1 x hx
    clear hf
    have hk2 : posA (nameE s) l < n := by omega
    obtain ⟨g, o, X1, k1, X2, k2, rfl, hg, hS⟩ := env_at h.rd hx
    have hT := hS.below hg hbz
    have hwl : x.waiting.length = t.waiting.length := by rw [f2, List.length_map]
    have e2 := hT.e2
    have e3 := hT.e3
    have e4 := hT.e4
    rw [f1] at e2
    rw [hwl] at e3
    have hgl : g < wo1.heap.size := Nat.lt_of_lt_of_le hg hbz.size
    have hd : decide ((t.held.length : Int) < (x.history.length : Int)) = false := decide_eq_false (by omega)
    clear hx hT hk
    generalize posA (nameE s) l = k at *
    have i0 : (0 : Int) ≤ (k : Int) := by omega
    have i1 : (k : Int) < (n : Int) := by omega
    have i3 : ¬ (k : Int) < 0 := by omega
    replace C := Lib.hid C
    replace hwl := Lib.hid hwl
    replace hn := Lib.hid hn
    replace f2 := Lib.hid f2
    repeat' ((fail_if_success at_builtin); (first | go_skip | go_guarded | go_step))
    refine C.out.mono ?_
    clear C
    rintro e w2 ⟨rfl, hw2⟩
    subst w2
    dsimp only
    repeat' ((fail_if_success at_builtin); (first | go_skip | go_guarded | go_step))
    go_quiet (fail)
    have hbq := Below.drewN wo1 nq
    generalize wo1.drewN nq = w3 at *
    have e3 := (hbq.cell (p := ⟨g, _, none⟩) hgl).trans e3
    have zw3 := hbq.size
    have hO2 : OwnB w w3 [(w.heap.size, [.string t.holder, .slice A1 t.waiting.length c1, .slice A2 t.held.length c2])] := hO1.kept hbq
    clear c0_0 c0_1 c0_2 cf0 hO1
    have c0_0 : w3.cell? ⟨w.heap.size, 0, none⟩ = some (.string t.holder) := hO2.c 0 0
    have c0_1 : w3.cell? ⟨w.heap.size, 1, none⟩ = some (.slice A1 t.waiting.length c1) := hO2.c 0 1
    have c0_2 : w3.cell? ⟨w.heap.size, 2, none⟩ = some (.slice A2 t.held.length c2) := hO2.c 0 2
    have cf0 := hO2.fr 0
    clear e2 e4
    repeat' ((fail_if_success at_builtin); (first | go_skip | go_guarded | go_step))
    go_loopw [8] (fun u8 wr => ∃ i : Nat, i ≤ t.waiting.length ∧ u8 = .int .i64 (i : Int) ∧ Below w3.heap.size w3 wr) (fun u8 _ => t.waiting.length - (intOf u8).toNat)
    case atStart => exact ⟨0, by omega, rfl, Below.refl _ _⟩
    case round =>
      obtain ⟨i, hi, rfl, hb⟩ := hrel
      have j0 : (0 : Int) ≤ (i : Int) := by omega
      have j2 : IntKind.i64.wrap ((i : Int) + 1) = (i : Int) + 1 := IntWalk.i64_in _ (by omega)
      have hgl3 : g < w3.heap.size := Nat.lt_of_lt_of_le hgl hbq.size
      have zwr := hb.size
      have hO3 : OwnB w wr [(w.heap.size, [.string t.holder, .slice A1 t.waiting.length c1, .slice A2 t.held.length c2])] := hO2.kept hb
      clear c0_0 c0_1 c0_2 cf0 hO2
      have c0_0 : wr.cell? ⟨w.heap.size, 0, none⟩ = some (.string t.holder) := hO3.c 0 0
      have c0_1 : wr.cell? ⟨w.heap.size, 1, none⟩ = some (.slice A1 t.waiting.length c1) := hO3.c 0 1
      have c0_2 : wr.cell? ⟨w.heap.size, 2, none⟩ = some (.slice A2 t.held.length c2) := hO3.c 0 2
      have cf0 := hO3.fr 0
      have hbw := hO3.below
      have e3 := (hb.cell (p := ⟨g, _, none⟩) hgl3).trans e3
      by_cases hlt : i < t.waiting.length
      · have j1 : (i : Int) < (t.waiting.length : Int) := by omega
        obtain ⟨y, hy⟩ : ∃ y, t.waiting[i]? = some y := ⟨_, List.getElem?_eq_getElem hlt⟩
        have hy2 : x.waiting[i]? = some (rOf y) := by rw [f2.out, List.getElem?_map, hy]; rfl
        obtain ⟨g2, o2, hA2, hg2, hSy⟩ := ref_at hS.wait hy2
        obtain ⟨g3, o3, hA3, hg3, hTy⟩ := strB_at h1 hy
        subst hA2 hA3
        have y1 : wr.cell? ⟨g2, o2 + i * 2 + 1, none⟩ = some (.string y) := (hbw.cell (p := ⟨g2, _, none⟩) hg2).trans hSy.2
        have y2 := (hbw.cell (p := ⟨g3, _, none⟩) hg3).trans hTy
        have hbe : ∀ q, Below w3.heap.size w3 (wr.drewN q) := fun q => hb.trans (Below.mono (Below.drewN wr q) hb.size)
        clear hSy hTy hy hy2
        repeat' ((fail_if_success at_builtin); (first | go_skip | go_guarded | go_step))
        go_quiet (fail)
        repeat' ((fail_if_success at_builtin); (first | go_skip | go_guarded | go_step))
        go_roundw
        case rel => exact ⟨i + 1, by omega, by first | rfl | go_num, hbe nq⟩
        case measure => (try go_num); (try simp [intOf]); (try omega)
      · have j1 : ¬ (i : Int) < (t.waiting.length : Int) := by omega
        repeat' ((fail_if_success at_builtin); (first | go_skip | go_guarded | go_step))
        go_ret
        exact ⟨rfl, hbw⟩
  · rw [posI_out hk] at C
    obtain ⟨f1, f2⟩ := hf.2 (List.getElem?_eq_none (by omega))
    clear hf
    have q1 : (t.holder.toList == []) = true := by rw [f1, ByteArray.toList_eq]; rfl
    have q2 : ((t.waiting.length : Int) == 0) = true := by rw [f2]; rfl
    clear f1 f2
    replace C := Lib.hid C
    repeat' ((fail_if_success at_builtin); (first | go_skip | go_guarded | go_step))
    refine C.out.mono ?_
    clear C
    rintro e w2 ⟨rfl, hw2⟩
    subst w2
    dsimp only
    repeat' ((fail_if_success at_builtin); (first | go_skip | go_guarded | go_step))
    go_ret
    exact ⟨rfl, hbz⟩
end Go.Proofs.YtennhjkhjplmoaaDoor
