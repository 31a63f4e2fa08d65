/- The gate's approvals. -/
import Derived.Test.YtionchkblgpklaaDoorGtE
namespace Go.Proofs.YtionchkblgpklaaDoor
open Go.RowKit
theorem str_info : Info Tryd.prog 9 (.string ByteArray.empty) 1 16 := by unfold Info; kernel_rfl
theorem strs_one (l : List ByteArray) : ∀ u ∈ l.map Value.string, u.oneCell' = true := by
  intro u hu
  obtain ⟨s, _, rfl⟩ := List.mem_map.1 hu
  rfl
theorem seq_take {w : World} {S : Nat → Prop} {A : Option Addr} {l : List ByteArray} {i : Nat} (h : SeqP w S 1 A l.length (cellsS l)) (hi : i ≤ l.length) : SeqP w S 1 A i (cellsS (l.take i)) := by
  refine ⟨by simp [Nat.min_eq_left hi], fun hn => ?_⟩
  obtain ⟨b, o, e, hb, hc⟩ := h.2 (by omega)
  refine ⟨b, o, e, hb, fun j u hu => hc j u ?_⟩
  have hm : cellsS (l.take i) = (cellsS l).take i := List.map_take
  rw [hm, List.getElem?_take] at hu
  split at hu
  · exact hu
  · cases hu
theorem seq_drop {w : World} {B c : Nat} {A : Option Addr} {l : List ByteArray} {i : Nat} (h : Seq w B 1 A l.length (cellsS l)) (hi : i ≤ l.length) (hc : l.length ≤ c) : Seq w B 1 (if c = i then A else A.map (fun x => x.add (i * 1))) (l.length - i) (cellsS (l.drop i)) := by
  have := h.cut (k := i) hi hc
  have hm : cellsS (l.drop i) = (cellsS l).drop (i * 1) := by rw [Nat.mul_one]; exact List.map_drop
  rw [hm]
  exact this
def after (who s : ByteArray) : Bool := decide (0 < cmpN s.data.toList who.data.toList)
def putL (l : List ByteArray) (s : ByteArray) : List ByteArray := insAt l s (posP (after s) l)
theorem putL_len {l : List ByteArray} {s : ByteArray} : (putL l s).length = l.length + 1 := insAt_len
set_option maxRecDepth 100000 in
set_option maxHeartbeats 4000000 in
theorem put_any (l : List ByteArray) (s : ByteArray) (A : Option Addr) (c : Nat) (w : World) (hs : Seq w w.heap.size 1 A l.length (cellsS l)) (hl : l.length ≤ 1000) (hc : l.length ≤ c) (hm : ∀ x ∈ l, x.size ≤ 1000) (hz : s.size ≤ 1000) :
    Calls Tryd.prog 41 #[.slice A l.length c, .string s] w fun e w' => ∃ A' c', e = .returned (.slice A' (l.length + 1) c') ∧ Below w.heap.size w w' ∧ SeqP w' (fun b => w.heap.size ≤ b ∧ b < w'.heap.size) 1 A' (l.length + 1) (cellsS (putL l s)) := by
  have hp := posP_le (after s) l
  have hP : putL l s = l.take (posP (after s) l) ++ s :: l.drop (posP (after s) l) := rfl
  go_enter Tryd.func41, Tryd.ntmps41
  repeat' ((fail_if_success at_builtin); (first | go_skip | go_guarded | go_step))
  go_loopw [5] (fun u5 wr => ∃ i : Nat, i ≤ l.length ∧ u5 = .int .i64 (i : Int) ∧ Below w.heap.size w wr ∧ posP (after s) l = i + posP (after s) (l.drop i)) (fun u5 _ => l.length - (intOf u5).toNat)
  case atStart => exact ⟨0, by omega, rfl, Below.refl _ _, by simp⟩
  case round =>
    obtain ⟨i, hi, rfl, hbw, hall⟩ := hrel
    obtain ⟨wx, hwx⟩ : ∃ wx : World, wx = wr := ⟨wr, rfl⟩
    subst hwx
    have hsx := (hs.below hbw).more hbw.size
    have i0 : (0 : Int) ≤ (i : Int) := by omega
    have hic : (i : Int) ≤ (c : Int) := by omega
    have hil : (i : Int) ≤ (l.length : Int) := by omega
    by_cases hlt : i < l.length
    · obtain ⟨b, o, rfl, hbB, hcell⟩ := hsx.2 (by omega)
      have hci : l[i]? = some l[i] := List.getElem?_eq_getElem hlt
      have e1 := hcell i (.string l[i]) (by rw [List.getElem?_map, hci]; rfl)
      have m1 := hm l[i] (List.getElem_mem hlt)
      have i1 : (i : Int) < (l.length : Int) := by omega
      rw [list_cons hlt, posP, after] at hall
      have C := refCompare_any l[i] s wx (by omega) (by omega)
      generalize l[i] = x at e1 hall C m1
      clear hci hcell
      generalize cmpN x.data.toList s.data.toList = r at *
      replace C := Lib.hid C
      by_cases hr : 0 < r
      · rw [if_pos (decide_eq_true hr)] at hall
        have hr2 : ¬ r ≤ 0 := by omega
        have hr3 : decide (r ≤ 0) = false := decide_eq_false hr2
        rw [Nat.add_zero] at hall
        rw [hall] at hP
        replace hP := Lib.hid hP
        clear hall hp hr
        repeat' ((fail_if_success at_builtin); (first | go_skip | go_guarded | go_step))
        refine C.out.mono ?_
        rintro e w2 ⟨rfl, hb2⟩
        dsimp only
        repeat' ((fail_if_success at_builtin); (first | go_skip | go_guarded | go_step))
        have hs2 := (hsx.below hb2).more (Below.size hb2)
        have hbw2 := hbw.trans (Below.mono hb2 hbw.size)
        refine wp_appS (Own.empty_lit w2 9 1) Tryd.underlying22 str_info (Seq.below (seq_take hs2 hi) ((Below.refl _ _).alloc (Nat.le_refl _) _)) (strs_one _) (by omega) ?_
        intro v3 w3 hown3 _
        have hb3 := hown3.2
        repeat' ((fail_if_success at_builtin); (first | go_skip | go_guarded | go_step))
        refine wp_app1 hown3 Tryd.underlying22 str_info (by omega) ?_
        intro v4 w4 hown4 _
        have hb4 := hown4.2
        have hs4 := hs2.below hb4
        repeat' ((fail_if_success at_builtin); (first | go_skip | go_guarded | go_step))
        have hd := seq_drop hs4 hi hc
        have e9 : ¬ c = i := by omega
        rw [if_neg e9] at hd
        simp only [Option.map_some, Addr.add_lit, Nat.mul_one] at hd
        clear e9
        refine wp_appS hown4 Tryd.underlying22 str_info hd (strs_one _) (by omega) ?_
        intro v5 w5 hown5 _
        have hb5 := hown5.2
        rw [show 0 + i + 1 + (l.length - i) = l.length + 1 by omega] at hown5
        have hcs : cellsS (putL l s) = [] ++ cellsS (l.take i) ++ (#[Value.string s] : Array Value).toList ++ cellsS (l.drop i) := by rw [hP.out]; simp
        rw [← hcs] at hown5
        obtain ⟨A5, c5, rfl⟩ := Own.slice_form hown5
        repeat' ((fail_if_success at_builtin); (first | go_skip | go_guarded | go_step))
        go_ret
        exact ⟨A5, c5, rfl, hbw2.trans (hb5.mono hbw2.size), (seq_lohi hown5.1).imp (fun b hb => ⟨by have := hbw2.size; omega, hb.2⟩)⟩
      · rw [if_neg (by simp [hr])] at hall
        have hr2 : r ≤ 0 := by omega
        have hr3 : decide (r ≤ 0) = true := decide_eq_true hr2
        have hbz := fun w2 (hb2 : Below wx.heap.size wx w2) => hbw.trans (hb2.mono hbw.size)
        replace hall := Lib.hid hall
        clear hr hp hP
        repeat' ((fail_if_success at_builtin); (first | go_skip | go_guarded | go_step))
        refine C.out.mono ?_
        rintro e w2 ⟨rfl, hb2⟩
        dsimp only
        repeat' ((fail_if_success at_builtin); (first | go_skip | go_guarded | go_step))
        go_roundw
        case rel => exact ⟨i + 1, by omega, by go_num, hbz _ hb2, by have := hall.out; omega⟩
        case measure => simp [intOf]; omega
    · have i1 : ¬ ((i : Int) < (l.length : Int)) := by omega
      have hie : posP (after s) l = i := by rw [hall, List.drop_of_length_le (by omega)]; rfl
      rw [hie] at hP
      replace hP := Lib.hid hP
      clear hall hp hie
      repeat' ((fail_if_success at_builtin); (first | go_skip | go_guarded | go_step))
      have hs2 := (hsx.below (Below.refl wx.heap.size wx)).more (Below.size (Below.refl wx.heap.size wx))
      have hbw2 := hbw.trans (Below.mono (Below.refl wx.heap.size wx) hbw.size)
      refine wp_appS (Own.empty_lit wx 9 1) Tryd.underlying22 str_info (Seq.below (seq_take hs2 hi) ((Below.refl _ _).alloc (Nat.le_refl _) _)) (strs_one _) (by omega) ?_
      intro v3 w3 hown3 _
      have hb3 := hown3.2
      repeat' ((fail_if_success at_builtin); (first | go_skip | go_guarded | go_step))
      refine wp_app1 hown3 Tryd.underlying22 str_info (by omega) ?_
      intro v4 w4 hown4 _
      have hb4 := hown4.2
      have hs4 := hs2.below hb4
      repeat' ((fail_if_success at_builtin); (first | go_skip | go_guarded | go_step))
      have hd := seq_drop hs4 hi hc
      simp only [Nat.mul_one] at hd
      refine wp_appS hown4 Tryd.underlying22 str_info hd (strs_one _) (by omega) ?_
      intro v5 w5 hown5 _
      have hb5 := hown5.2
      rw [show 0 + i + 1 + (l.length - i) = l.length + 1 by omega] at hown5
      have hcs : cellsS (putL l s) = [] ++ cellsS (l.take i) ++ (#[Value.string s] : Array Value).toList ++ cellsS (l.drop i) := by rw [hP.out]; simp
      rw [← hcs] at hown5
      obtain ⟨A5, c5, rfl⟩ := Own.slice_form hown5
      repeat' ((fail_if_success at_builtin); (first | go_skip | go_guarded | go_step))
      go_ret
      exact ⟨A5, c5, rfl, hbw2.trans (hb5.mono hbw2.size), (seq_lohi hown5.1).imp (fun b hb => ⟨by have := hbw2.size; omega, hb.2⟩)⟩
theorem owns_below {w w' : World} {B sz n : Nat} {e : TypeId} {v : Value} {xs : List Value} (h : w.ownsRow B e sz v n xs) (hb : Below w.heap.size w w') : w'.ownsRow B e sz v n xs := by
  refine ⟨h.1, ?_⟩
  rcases h.2 with h2 | ⟨g, cap, cur, h3, h4, h5, h6⟩
  · exact .inl h2
  · exact .inr ⟨g, cap, cur, h3, h4, by rw [hb.block g (Array.getElem?_eq_some_iff.1 h5).1]; exact h5, h6⟩
theorem ins2_any (l : List ByteArray) (s : ByteArray) (p B : Nat) (A : Option Addr) (c : Nat) (w0 : World) (hown : w0.ownsRow B 9 1 (.slice A l.length c) l.length (cellsS l)) (hp : posP (after s) l = p) (hl : l.length ≤ 1000) (hB : B ≤ w0.heap.size) :
    Calls Tryd.prog 39 #[.slice A l.length c, .int .i64 (p : Int), .slice (some ⟨w0.heap.size, 0, none⟩) 1 1] (w0.alloc (.cells #[.string s] 9)) (fun e w' => ∃ A' c', e = .returned (.slice A' (l.length + 1) c') ∧ SeqP w' (fun b => B ≤ b ∧ b < w'.heap.size) 1 A' (l.length + 1) (cellsS (putL l s)) ∧ Below B w0 w') := by
  have hle := posP_le (after s) l
  refine (ins_any l s p B A c w0 hown (by omega) hl hB).mono ?_
  rintro e w' ⟨A', c', h1, h2, h3⟩
  rw [insAt_len] at h1 h2
  refine ⟨A', c', h1, ?_, h3⟩
  unfold putL
  rw [hp]
  exact h2
def appE (g : Gt) (who : ByteArray) (now : Int) : Int := if checkG g who now ≠ 0 then checkG g who now else if hasL g.yes who = true then 7 else 0
def appG (g : Gt) (who : ByteArray) (now : Int) : Gt := if appE g who now ≠ 0 then g else { g with yes := putL g.yes who, state := if g.s.app ≤ (g.yes.length : Int) + 1 then 1 else g.state }
set_option maxRecDepth 100000 in
set_option maxHeartbeats 4000000 in
theorem approveF_any (g : Gt) (A : Option Addr) (c : Nat) (A' : Option Addr) (c' : Nat) (who : ByteArray) (now : Int) (w : World) (hs : Seq w w.heap.size 1 A g.s.who.length (cellsS g.s.who)) (hs' : Seq w w.heap.size 1 A' g.yes.length (cellsS g.yes)) (hl : g.s.who.length ≤ 1000) (hl' : g.yes.length ≤ 1000) (hm : ∀ x ∈ g.yes, x.size ≤ 1000) (hwz : checkG g who now = 0 → who.size ≤ 1000) (h1 : I64 g.opened) (h2 : I64 g.s.exp) : Calls Tryd.prog 16 #[.agg (garr g A c A' c'), .string who, .int .i64 now] w (GRetF w (appG g who now) (appE g who now)) := by
  have hb1 := (((Below.refl w.heap.size w).alloc (Nat.le_refl _) (.cells (garr g A c A' c') 28)).alloc (by simp) (.cells #[.string who] 9)).alloc (by simp; omega) (.cells zarr 28)
  have hz : (((w.alloc (.cells (garr g A c A' c') 28)).alloc (.cells #[.string who] 9)).alloc (.cells zarr 28)).heap.size = w.heap.size + 1 + 1 + 1 := by simp
  have d0 : ((((w.alloc (.cells (garr g A c A' c') 28)).alloc (.cells #[.string who] 9)).alloc (.cells zarr 28))).cell? ⟨w.heap.size, 0, none⟩ = some (.int .i64 g.s.app) := by simp [go_sem]
  have d1 : ((((w.alloc (.cells (garr g A c A' c') 28)).alloc (.cells #[.string who] 9)).alloc (.cells zarr 28))).cell? ⟨w.heap.size, 1, none⟩ = some (.slice A g.s.who.length c) := by simp [go_sem]
  have d2 : ((((w.alloc (.cells (garr g A c A' c') 28)).alloc (.cells #[.string who] 9)).alloc (.cells zarr 28))).cell? ⟨w.heap.size, 2, none⟩ = some (.int .i64 g.s.exp) := by simp [go_sem]
  have d3 : ((((w.alloc (.cells (garr g A c A' c') 28)).alloc (.cells #[.string who] 9)).alloc (.cells zarr 28))).cell? ⟨w.heap.size, 3, none⟩ = some (.int .i64 g.opened) := by simp [go_sem]
  have d4 : ((((w.alloc (.cells (garr g A c A' c') 28)).alloc (.cells #[.string who] 9)).alloc (.cells zarr 28))).cell? ⟨w.heap.size, 4, none⟩ = some (.slice A' g.yes.length c') := by simp [go_sem]
  have d5 : ((((w.alloc (.cells (garr g A c A' c') 28)).alloc (.cells #[.string who] 9)).alloc (.cells zarr 28))).cell? ⟨w.heap.size, 5, none⟩ = some (.int .i64 g.state) := by simp [go_sem]
  have dF : ∀ j, ((((w.alloc (.cells (garr g A c A' c') 28)).alloc (.cells #[.string who] 9)).alloc (.cells zarr 28))).frozen? ⟨w.heap.size, j, none⟩ = false := fun j => by simp [go_sem]
  have y0 : ((((w.alloc (.cells (garr g A c A' c') 28)).alloc (.cells #[.string who] 9)).alloc (.cells zarr 28))).cell? ⟨w.heap.size + 1, 0, none⟩ = some (.string who) := by simp [go_sem]
  have yF : ∀ j, ((((w.alloc (.cells (garr g A c A' c') 28)).alloc (.cells #[.string who] 9)).alloc (.cells zarr 28))).frozen? ⟨w.heap.size + 1, j, none⟩ = false := fun j => by simp [go_sem]
  have z0 : ((((w.alloc (.cells (garr g A c A' c') 28)).alloc (.cells #[.string who] 9)).alloc (.cells zarr 28))).cell? ⟨w.heap.size + 1 + 1, 0, none⟩ = some (.int .i64 0) := by simp [go_sem]
  have z1 : ((((w.alloc (.cells (garr g A c A' c') 28)).alloc (.cells #[.string who] 9)).alloc (.cells zarr 28))).cell? ⟨w.heap.size + 1 + 1, 1, none⟩ = some (.slice none 0 0) := by simp [go_sem]
  have z2 : ((((w.alloc (.cells (garr g A c A' c') 28)).alloc (.cells #[.string who] 9)).alloc (.cells zarr 28))).cell? ⟨w.heap.size + 1 + 1, 2, none⟩ = some (.int .i64 0) := by simp [go_sem]
  have z3 : ((((w.alloc (.cells (garr g A c A' c') 28)).alloc (.cells #[.string who] 9)).alloc (.cells zarr 28))).cell? ⟨w.heap.size + 1 + 1, 3, none⟩ = some (.int .i64 0) := by simp [go_sem]
  have z4 : ((((w.alloc (.cells (garr g A c A' c') 28)).alloc (.cells #[.string who] 9)).alloc (.cells zarr 28))).cell? ⟨w.heap.size + 1 + 1, 4, none⟩ = some (.slice none 0 0) := by simp [go_sem]
  have z5 : ((((w.alloc (.cells (garr g A c A' c') 28)).alloc (.cells #[.string who] 9)).alloc (.cells zarr 28))).cell? ⟨w.heap.size + 1 + 1, 5, none⟩ = some (.int .i64 0) := by simp [go_sem]
  have zF : ∀ j, ((((w.alloc (.cells (garr g A c A' c') 28)).alloc (.cells #[.string who] 9)).alloc (.cells zarr 28))).frozen? ⟨w.heap.size + 1 + 1, j, none⟩ = false := fun j => by simp [go_sem]
  go_enter Tryd.func16, Tryd.ntmps16
  repeat' ((fail_if_success at_builtin); (first | go_skip | go_guarded | go_step))
  generalize (((w.alloc (.cells (garr g A c A' c') 28)).alloc (.cells #[.string who] 9)).alloc (.cells zarr 28)) = w1 at *
  have hs1 := (hs.below hb1).more hb1.size
  have hs1' := (hs'.below hb1).more hb1.size
  refine (copied_any g A c A' c' w1 hs1 hs1' hl hl').mono ?_
  rintro e w2 ⟨A1, c1, A2, c2, B, rfl, hb2, hB, hB2, hq1, hq2⟩
  dsimp only
  replace d0 := (hb2.cell (p := ⟨w.heap.size, 0, none⟩) (by dsimp only; omega)).trans d0
  replace d1 := (hb2.cell (p := ⟨w.heap.size, 1, none⟩) (by dsimp only; omega)).trans d1
  replace d2 := (hb2.cell (p := ⟨w.heap.size, 2, none⟩) (by dsimp only; omega)).trans d2
  replace d3 := (hb2.cell (p := ⟨w.heap.size, 3, none⟩) (by dsimp only; omega)).trans d3
  replace d4 := (hb2.cell (p := ⟨w.heap.size, 4, none⟩) (by dsimp only; omega)).trans d4
  replace d5 := (hb2.cell (p := ⟨w.heap.size, 5, none⟩) (by dsimp only; omega)).trans d5
  replace dF := frz_below hb2 (by omega) dF
  replace y0 := (hb2.cell (p := ⟨w.heap.size + 1, 0, none⟩) (by dsimp only; omega)).trans y0
  replace yF := frz_below hb2 (by omega) yF
  replace z0 := (hb2.cell (p := ⟨w.heap.size + 1 + 1, 0, none⟩) (by dsimp only; omega)).trans z0
  replace z1 := (hb2.cell (p := ⟨w.heap.size + 1 + 1, 1, none⟩) (by dsimp only; omega)).trans z1
  replace z2 := (hb2.cell (p := ⟨w.heap.size + 1 + 1, 2, none⟩) (by dsimp only; omega)).trans z2
  replace z3 := (hb2.cell (p := ⟨w.heap.size + 1 + 1, 3, none⟩) (by dsimp only; omega)).trans z3
  replace z4 := (hb2.cell (p := ⟨w.heap.size + 1 + 1, 4, none⟩) (by dsimp only; omega)).trans z4
  replace z5 := (hb2.cell (p := ⟨w.heap.size + 1 + 1, 5, none⟩) (by dsimp only; omega)).trans z5
  replace zF := frz_below hb2 (by omega) zF
  repeat' ((fail_if_success at_builtin); (first | go_skip | go_guarded | go_step))
  generalize hw_w3 : ((((((w2.setCell ⟨w.heap.size, 0, none⟩ (.int .i64 g.s.app)).setCell ⟨w.heap.size, 1, none⟩ (.slice A1 g.s.who.length c1)).setCell ⟨w.heap.size, 2, none⟩ (.int .i64 g.s.exp)).setCell ⟨w.heap.size, 3, none⟩ (.int .i64 g.opened)).setCell ⟨w.heap.size, 4, none⟩ (.slice A2 g.yes.length c2)).setCell ⟨w.heap.size, 5, none⟩ (.int .i64 g.state)) = w3 at *
  obtain ⟨⟨nd0, nd1, nd2, nd3, nd4, nd5⟩, far_w3, frz_w3, hsz_w3, bel_w3, own_w3⟩ := six_ok (.int .i64 g.s.app) (.slice A1 g.s.who.length c1) (.int .i64 g.s.exp) (.int .i64 g.opened) (.slice A2 g.yes.length c2) (.int .i64 g.state) d0 d1 d2 d3 d4 d5 w3 hw_w3
  clear d0 d1 d2 d3 d4 d5 hw_w3
  have d0 := nd0
  have d1 := nd1
  have d2 := nd2
  have d3 := nd3
  have d4 := nd4
  have d5 := nd5
  clear nd0 nd1 nd2 nd3 nd4 nd5
  replace dF := fun j => (frz_w3 ⟨w.heap.size, j, none⟩).trans (dF j)
  replace y0 := (far_w3 ⟨w.heap.size + 1, 0, none⟩ (by dsimp only; omega)).trans y0
  replace yF := fun j => (frz_w3 ⟨w.heap.size + 1, j, none⟩).trans (yF j)
  replace z0 := (far_w3 ⟨w.heap.size + 1 + 1, 0, none⟩ (by dsimp only; omega)).trans z0
  replace z1 := (far_w3 ⟨w.heap.size + 1 + 1, 1, none⟩ (by dsimp only; omega)).trans z1
  replace z2 := (far_w3 ⟨w.heap.size + 1 + 1, 2, none⟩ (by dsimp only; omega)).trans z2
  replace z3 := (far_w3 ⟨w.heap.size + 1 + 1, 3, none⟩ (by dsimp only; omega)).trans z3
  replace z4 := (far_w3 ⟨w.heap.size + 1 + 1, 4, none⟩ (by dsimp only; omega)).trans z4
  replace z5 := (far_w3 ⟨w.heap.size + 1 + 1, 5, none⟩ (by dsimp only; omega)).trans z5
  replace zF := fun j => (frz_w3 ⟨w.heap.size + 1 + 1, j, none⟩).trans (zF j)
  have hbw3 := bel_w3 _ _ (Nat.le_refl _) (hb1.trans (hb2.mono hb1.size))
  have hz3 : w1.heap.size ≤ w3.heap.size := by rw [hsz_w3]; exact hb2.size
  have hq3 : SeqP w3 (fun b => w1.heap.size ≤ b ∧ b < B) 1 A1 g.s.who.length (cellsS g.s.who) := hq1.map (fun p hp => far_w3 p (by have := hp.1; omega)) fun _ h => h
  have ho3 := own_w3 _ _ _ _ _ _ (by omega) hq2
  have hBw3 : B ≤ w3.heap.size := by rw [hsz_w3]; exact hB2
  clear hq1 hq2 far_w3 frz_w3 bel_w3 own_w3 hb2 hsz_w3
  have hr3 : Seq w3 w3.heap.size 1 A1 g.s.who.length (cellsS g.s.who) := hq3.lower
  have hr3' : Seq w3 w3.heap.size 1 A2 g.yes.length (cellsS g.yes) := Seq.of_own ho3
  have hchk := check_any g A1 c1 A2 c2 who now w3 hr3 hl h1 h2
  have hE : appE g who now = appE g who now := rfl
  conv at hE => rhs; unfold appE
  have hG : appG g who now = appG g who now := rfl
  conv at hG => rhs; unfold appG
  generalize appE g who now = r at *
  generalize appG g who now = g' at *
  generalize checkG g who now = k at *
  replace hE := Lib.hid hE
  replace hG := Lib.hid hG
  refine hchk.mono ?_
  rintro e w4 ⟨rfl, hb4⟩
  dsimp only
  replace d0 := (hb4.cell (p := ⟨w.heap.size, 0, none⟩) (by dsimp only; omega)).trans d0
  replace d1 := (hb4.cell (p := ⟨w.heap.size, 1, none⟩) (by dsimp only; omega)).trans d1
  replace d2 := (hb4.cell (p := ⟨w.heap.size, 2, none⟩) (by dsimp only; omega)).trans d2
  replace d3 := (hb4.cell (p := ⟨w.heap.size, 3, none⟩) (by dsimp only; omega)).trans d3
  replace d4 := (hb4.cell (p := ⟨w.heap.size, 4, none⟩) (by dsimp only; omega)).trans d4
  replace d5 := (hb4.cell (p := ⟨w.heap.size, 5, none⟩) (by dsimp only; omega)).trans d5
  replace dF := frz_below hb4 (by omega) dF
  replace y0 := (hb4.cell (p := ⟨w.heap.size + 1, 0, none⟩) (by dsimp only; omega)).trans y0
  replace yF := frz_below hb4 (by omega) yF
  replace z0 := (hb4.cell (p := ⟨w.heap.size + 1 + 1, 0, none⟩) (by dsimp only; omega)).trans z0
  replace z1 := (hb4.cell (p := ⟨w.heap.size + 1 + 1, 1, none⟩) (by dsimp only; omega)).trans z1
  replace z2 := (hb4.cell (p := ⟨w.heap.size + 1 + 1, 2, none⟩) (by dsimp only; omega)).trans z2
  replace z3 := (hb4.cell (p := ⟨w.heap.size + 1 + 1, 3, none⟩) (by dsimp only; omega)).trans z3
  replace z4 := (hb4.cell (p := ⟨w.heap.size + 1 + 1, 4, none⟩) (by dsimp only; omega)).trans z4
  replace z5 := (hb4.cell (p := ⟨w.heap.size + 1 + 1, 5, none⟩) (by dsimp only; omega)).trans z5
  replace zF := frz_below hb4 (by omega) zF
  have hbw4 := hbw3.trans (hb4.mono hbw3.size)
  have hz4 : w1.heap.size ≤ w4.heap.size := by have := hb4.size; omega
  have hBw4 : B ≤ w4.heap.size := by have := hb4.size; omega
  have hq4 := hq3.belowS hb4 (fun b hb => Nat.lt_of_lt_of_le hb.2 hBw3)
  have ho4 := owns_below ho3 hb4
  have hq4' := seq_lohi ho4
  clear hchk hb4 hq3 ho3 hr3 hr3' hbw3 hs1 hs1'
  by_cases hk : k = 0
  · have p0 : (k != 0) = false := by simp [hk]
    have hE' := hE.out
    rw [if_neg (Decidable.not_not.2 hk)] at hE'
    subst hk
    replace hwz := hwz rfl
    repeat' ((fail_if_success at_builtin); (first | go_skip | go_guarded | go_step))
    refine (has_any g.yes who A2 c2 _ w4 (Seq.of_own ho4) (by omega)).mono ?_
    rintro e w5 ⟨rfl, rfl⟩
    dsimp only
    cases hh : hasL g.yes who with
    | true =>
      rw [if_pos hh] at hE'
      subst hE'
      have hG' := hG.out
      rw [if_pos (by simp)] at hG'
      subst hG'
      clear hE hG
      repeat' ((fail_if_success at_builtin); (first | go_skip | go_guarded | go_step))
      generalize hw_w6 : ((((((w5.setCell ⟨w.heap.size + 1 + 1, 0, none⟩ (.int .i64 g'.s.app)).setCell ⟨w.heap.size + 1 + 1, 1, none⟩ (.slice A1 g'.s.who.length c1)).setCell ⟨w.heap.size + 1 + 1, 2, none⟩ (.int .i64 g'.s.exp)).setCell ⟨w.heap.size + 1 + 1, 3, none⟩ (.int .i64 g'.opened)).setCell ⟨w.heap.size + 1 + 1, 4, none⟩ (.slice A2 g'.yes.length c2)).setCell ⟨w.heap.size + 1 + 1, 5, none⟩ (.int .i64 g'.state)) = w6 at *
      obtain ⟨⟨nz0, nz1, nz2, nz3, nz4, nz5⟩, far_w6, frz_w6, hsz_w6, bel_w6, own_w6⟩ := six_ok (.int .i64 g'.s.app) (.slice A1 g'.s.who.length c1) (.int .i64 g'.s.exp) (.int .i64 g'.opened) (.slice A2 g'.yes.length c2) (.int .i64 g'.state) z0 z1 z2 z3 z4 z5 w6 hw_w6
      clear z0 z1 z2 z3 z4 z5 hw_w6
      have z0 := nz0
      have z1 := nz1
      have z2 := nz2
      have z3 := nz3
      have z4 := nz4
      have z5 := nz5
      clear nz0 nz1 nz2 nz3 nz4 nz5
      replace d0 := (far_w6 ⟨w.heap.size, 0, none⟩ (by dsimp only; omega)).trans d0
      replace d1 := (far_w6 ⟨w.heap.size, 1, none⟩ (by dsimp only; omega)).trans d1
      replace d2 := (far_w6 ⟨w.heap.size, 2, none⟩ (by dsimp only; omega)).trans d2
      replace d3 := (far_w6 ⟨w.heap.size, 3, none⟩ (by dsimp only; omega)).trans d3
      replace d4 := (far_w6 ⟨w.heap.size, 4, none⟩ (by dsimp only; omega)).trans d4
      replace d5 := (far_w6 ⟨w.heap.size, 5, none⟩ (by dsimp only; omega)).trans d5
      replace dF := fun j => (frz_w6 ⟨w.heap.size, j, none⟩).trans (dF j)
      replace y0 := (far_w6 ⟨w.heap.size + 1, 0, none⟩ (by dsimp only; omega)).trans y0
      replace yF := fun j => (frz_w6 ⟨w.heap.size + 1, j, none⟩).trans (yF j)
      replace zF := fun j => (frz_w6 ⟨w.heap.size + 1 + 1, j, none⟩).trans (zF j)
      clear d0 d1 d2 d3 d4 d5 y0
      refine bodyPost_ret (v := .tuple #[.agg #[.int .i64 g'.s.app, .slice A1 g'.s.who.length c1, .int .i64 g'.s.exp, .int .i64 g'.opened, .slice A2 g'.yes.length c2, .int .i64 g'.state], .int .i64 (7)]) (by simp only [results, Tryd.results16]; go_simp; try (first | rfl | exact ⟨rfl, rfl, rfl, rfl, rfl, rfl⟩)) rfl ?_
      exact ⟨_, _, _, _, rfl, bel_w6 _ _ (by omega) hbw4, (SeqP.map hq4 (fun p hp => far_w6 p (by have := hp.1; omega)) fun _ h => h).lo (fun b hb => by have := hb.1; omega), (SeqP.map hq4' (fun p hp => far_w6 p (by have := hp.1; omega)) fun _ h => h).lo (fun b hb => by have := hb.1; omega)⟩
    | false =>
      rw [if_neg (by simp [hh])] at hE'
      subst hE'
      have hG' := hG.out
      rw [if_neg (by simp)] at hG'
      subst hG'
      clear hE hG
      have hpl := posP_le (after who) g.yes
      have C := idxAfter_any g.yes (after who) (w.heap.size + 1) A2 c2 w5 (Seq.of_own ho4) (by omega) (fun x hx w' hb => after1_any x who (w.heap.size + 1) w' ((hb.cell (p := ⟨w.heap.size + 1, 0, none⟩) (by dsimp only; omega)).trans y0) (by have := hm x hx; omega) (by omega))
      have CI := fun (w6 : World) (hb6 : Below w5.heap.size w5 w6) => ins2_any g.yes who (posP (after who) g.yes) B A2 c2 w6 (owns_below ho4 hb6) rfl hl' (Nat.le_trans hBw4 hb6.size)
      have hcase : (posP (after who) g.yes < g.yes.length) ∨ posP (after who) g.yes = g.yes.length := by omega
      generalize posP (after who) g.yes = p at *
      rcases hcase with hp | hp
      · rw [if_pos hp] at C
        have p1 : ¬ (p : Int) < 0 := by omega
        clear hp
        replace C := Lib.hid C
        replace CI := Lib.hid CI
        repeat' ((fail_if_success at_builtin); (first | go_skip | go_guarded | go_step))
        refine C.out.mono ?_
        rintro e w6 ⟨rfl, hb6⟩
        dsimp only
        replace d0 := (hb6.cell (p := ⟨w.heap.size, 0, none⟩) (by dsimp only; omega)).trans d0
        replace d1 := (hb6.cell (p := ⟨w.heap.size, 1, none⟩) (by dsimp only; omega)).trans d1
        replace d2 := (hb6.cell (p := ⟨w.heap.size, 2, none⟩) (by dsimp only; omega)).trans d2
        replace d3 := (hb6.cell (p := ⟨w.heap.size, 3, none⟩) (by dsimp only; omega)).trans d3
        replace d4 := (hb6.cell (p := ⟨w.heap.size, 4, none⟩) (by dsimp only; omega)).trans d4
        replace d5 := (hb6.cell (p := ⟨w.heap.size, 5, none⟩) (by dsimp only; omega)).trans d5
        replace dF := frz_below hb6 (by omega) dF
        replace y0 := (hb6.cell (p := ⟨w.heap.size + 1, 0, none⟩) (by dsimp only; omega)).trans y0
        replace yF := frz_below hb6 (by omega) yF
        replace z0 := (hb6.cell (p := ⟨w.heap.size + 1 + 1, 0, none⟩) (by dsimp only; omega)).trans z0
        replace z1 := (hb6.cell (p := ⟨w.heap.size + 1 + 1, 1, none⟩) (by dsimp only; omega)).trans z1
        replace z2 := (hb6.cell (p := ⟨w.heap.size + 1 + 1, 2, none⟩) (by dsimp only; omega)).trans z2
        replace z3 := (hb6.cell (p := ⟨w.heap.size + 1 + 1, 3, none⟩) (by dsimp only; omega)).trans z3
        replace z4 := (hb6.cell (p := ⟨w.heap.size + 1 + 1, 4, none⟩) (by dsimp only; omega)).trans z4
        replace z5 := (hb6.cell (p := ⟨w.heap.size + 1 + 1, 5, none⟩) (by dsimp only; omega)).trans z5
        replace zF := frz_below hb6 (by omega) zF
        have hbw6 := hbw4.trans (hb6.mono hbw4.size)
        have hq6 := hq4.belowS hb6 (fun b hb => Nat.lt_of_lt_of_le hb.2 hBw4)
        have hz6 := hb6.size
        repeat' ((fail_if_success at_builtin); (first | go_skip | go_guarded | go_step))
        refine (CI.out w6 hb6).mono ?_
        rintro e w7 ⟨A3, c3, rfl, hqy, hb7⟩
        dsimp only
        replace d0 := (hb7.cell (p := ⟨w.heap.size, 0, none⟩) (by dsimp only; omega)).trans d0
        replace d1 := (hb7.cell (p := ⟨w.heap.size, 1, none⟩) (by dsimp only; omega)).trans d1
        replace d2 := (hb7.cell (p := ⟨w.heap.size, 2, none⟩) (by dsimp only; omega)).trans d2
        replace d3 := (hb7.cell (p := ⟨w.heap.size, 3, none⟩) (by dsimp only; omega)).trans d3
        replace d4 := (hb7.cell (p := ⟨w.heap.size, 4, none⟩) (by dsimp only; omega)).trans d4
        replace d5 := (hb7.cell (p := ⟨w.heap.size, 5, none⟩) (by dsimp only; omega)).trans d5
        replace dF := frz_below hb7 (by omega) dF
        replace y0 := (hb7.cell (p := ⟨w.heap.size + 1, 0, none⟩) (by dsimp only; omega)).trans y0
        replace yF := frz_below hb7 (by omega) yF
        replace z0 := (hb7.cell (p := ⟨w.heap.size + 1 + 1, 0, none⟩) (by dsimp only; omega)).trans z0
        replace z1 := (hb7.cell (p := ⟨w.heap.size + 1 + 1, 1, none⟩) (by dsimp only; omega)).trans z1
        replace z2 := (hb7.cell (p := ⟨w.heap.size + 1 + 1, 2, none⟩) (by dsimp only; omega)).trans z2
        replace z3 := (hb7.cell (p := ⟨w.heap.size + 1 + 1, 3, none⟩) (by dsimp only; omega)).trans z3
        replace z4 := (hb7.cell (p := ⟨w.heap.size + 1 + 1, 4, none⟩) (by dsimp only; omega)).trans z4
        replace z5 := (hb7.cell (p := ⟨w.heap.size + 1 + 1, 5, none⟩) (by dsimp only; omega)).trans z5
        replace zF := frz_below hb7 (by omega) zF
        have hbw7 := hbw6.trans (hb7.mono (by omega))
        have hq7 := hq6.belowS hb7 (fun b hb => hb.2)
        have hz7 := hb7.size
        clear C CI hq4 ho4 hq4' hq6
        by_cases ha : g.s.app ≤ (g.yes.length : Int) + 1
        · repeat' ((fail_if_success at_builtin); (first | go_skip | go_guarded | go_step))
          replace d0 := (World.cell?_setCell_other w7 ⟨w.heap.size, 4, none⟩ ⟨w.heap.size, 0, none⟩ (.slice A3 (g.yes.length + 1) c3) (by simp)).trans d0
          replace d1 := (World.cell?_setCell_other w7 ⟨w.heap.size, 4, none⟩ ⟨w.heap.size, 1, none⟩ (.slice A3 (g.yes.length + 1) c3) (by simp)).trans d1
          replace d2 := (World.cell?_setCell_other w7 ⟨w.heap.size, 4, none⟩ ⟨w.heap.size, 2, none⟩ (.slice A3 (g.yes.length + 1) c3) (by simp)).trans d2
          replace d3 := (World.cell?_setCell_other w7 ⟨w.heap.size, 4, none⟩ ⟨w.heap.size, 3, none⟩ (.slice A3 (g.yes.length + 1) c3) (by simp)).trans d3
          replace d4 := World.cell?_setCell_same w7 _ (.slice A3 (g.yes.length + 1) c3) d4
          replace d5 := (World.cell?_setCell_other w7 ⟨w.heap.size, 4, none⟩ ⟨w.heap.size, 5, none⟩ (.slice A3 (g.yes.length + 1) c3) (by simp)).trans d5
          replace dF := frz_set (p := ⟨w.heap.size, 4, none⟩) (v := .slice A3 (g.yes.length + 1) c3) dF
          replace y0 := (World.cell?_setCell_far w7 ⟨w.heap.size, 4, none⟩ ⟨w.heap.size + 1, 0, none⟩ (.slice A3 (g.yes.length + 1) c3) (by dsimp only; omega)).trans y0
          replace yF := frz_set (p := ⟨w.heap.size, 4, none⟩) (v := .slice A3 (g.yes.length + 1) c3) yF
          replace z0 := (World.cell?_setCell_far w7 ⟨w.heap.size, 4, none⟩ ⟨w.heap.size + 1 + 1, 0, none⟩ (.slice A3 (g.yes.length + 1) c3) (by dsimp only; omega)).trans z0
          replace z1 := (World.cell?_setCell_far w7 ⟨w.heap.size, 4, none⟩ ⟨w.heap.size + 1 + 1, 1, none⟩ (.slice A3 (g.yes.length + 1) c3) (by dsimp only; omega)).trans z1
          replace z2 := (World.cell?_setCell_far w7 ⟨w.heap.size, 4, none⟩ ⟨w.heap.size + 1 + 1, 2, none⟩ (.slice A3 (g.yes.length + 1) c3) (by dsimp only; omega)).trans z2
          replace z3 := (World.cell?_setCell_far w7 ⟨w.heap.size, 4, none⟩ ⟨w.heap.size + 1 + 1, 3, none⟩ (.slice A3 (g.yes.length + 1) c3) (by dsimp only; omega)).trans z3
          replace z4 := (World.cell?_setCell_far w7 ⟨w.heap.size, 4, none⟩ ⟨w.heap.size + 1 + 1, 4, none⟩ (.slice A3 (g.yes.length + 1) c3) (by dsimp only; omega)).trans z4
          replace z5 := (World.cell?_setCell_far w7 ⟨w.heap.size, 4, none⟩ ⟨w.heap.size + 1 + 1, 5, none⟩ (.slice A3 (g.yes.length + 1) c3) (by dsimp only; omega)).trans z5
          replace zF := frz_set (p := ⟨w.heap.size, 4, none⟩) (v := .slice A3 (g.yes.length + 1) c3) zF
          generalize hw_w8 : w7.setCell ⟨w.heap.size, 4, none⟩ (.slice A3 (g.yes.length + 1) c3) = w8 at *
          have hbw8 : Below w.heap.size w w8 := hw_w8 ▸ Below.setCell (p := ⟨w.heap.size, 4, none⟩) hbw7 (Nat.le_refl _) _
          have hq8 := SeqP.set (p := ⟨w.heap.size, 4, none⟩) hq7 (by dsimp only; omega) (.slice A3 (g.yes.length + 1) c3)
          have hy8 := SeqP.set (p := ⟨w.heap.size, 4, none⟩) hqy (by dsimp only; omega) (.slice A3 (g.yes.length + 1) c3)
          rw [hw_w8] at hq8 hy8
          clear hw_w8
          replace d0 := (World.cell?_setCell_other w8 ⟨w.heap.size, 5, none⟩ ⟨w.heap.size, 0, none⟩ (.int .i64 1) (by simp)).trans d0
          replace d1 := (World.cell?_setCell_other w8 ⟨w.heap.size, 5, none⟩ ⟨w.heap.size, 1, none⟩ (.int .i64 1) (by simp)).trans d1
          replace d2 := (World.cell?_setCell_other w8 ⟨w.heap.size, 5, none⟩ ⟨w.heap.size, 2, none⟩ (.int .i64 1) (by simp)).trans d2
          replace d3 := (World.cell?_setCell_other w8 ⟨w.heap.size, 5, none⟩ ⟨w.heap.size, 3, none⟩ (.int .i64 1) (by simp)).trans d3
          replace d4 := (World.cell?_setCell_other w8 ⟨w.heap.size, 5, none⟩ ⟨w.heap.size, 4, none⟩ (.int .i64 1) (by simp)).trans d4
          replace d5 := World.cell?_setCell_same w8 _ (.int .i64 1) d5
          replace dF := frz_set (p := ⟨w.heap.size, 5, none⟩) (v := .int .i64 1) dF
          replace y0 := (World.cell?_setCell_far w8 ⟨w.heap.size, 5, none⟩ ⟨w.heap.size + 1, 0, none⟩ (.int .i64 1) (by dsimp only; omega)).trans y0
          replace yF := frz_set (p := ⟨w.heap.size, 5, none⟩) (v := .int .i64 1) yF
          replace z0 := (World.cell?_setCell_far w8 ⟨w.heap.size, 5, none⟩ ⟨w.heap.size + 1 + 1, 0, none⟩ (.int .i64 1) (by dsimp only; omega)).trans z0
          replace z1 := (World.cell?_setCell_far w8 ⟨w.heap.size, 5, none⟩ ⟨w.heap.size + 1 + 1, 1, none⟩ (.int .i64 1) (by dsimp only; omega)).trans z1
          replace z2 := (World.cell?_setCell_far w8 ⟨w.heap.size, 5, none⟩ ⟨w.heap.size + 1 + 1, 2, none⟩ (.int .i64 1) (by dsimp only; omega)).trans z2
          replace z3 := (World.cell?_setCell_far w8 ⟨w.heap.size, 5, none⟩ ⟨w.heap.size + 1 + 1, 3, none⟩ (.int .i64 1) (by dsimp only; omega)).trans z3
          replace z4 := (World.cell?_setCell_far w8 ⟨w.heap.size, 5, none⟩ ⟨w.heap.size + 1 + 1, 4, none⟩ (.int .i64 1) (by dsimp only; omega)).trans z4
          replace z5 := (World.cell?_setCell_far w8 ⟨w.heap.size, 5, none⟩ ⟨w.heap.size + 1 + 1, 5, none⟩ (.int .i64 1) (by dsimp only; omega)).trans z5
          replace zF := frz_set (p := ⟨w.heap.size, 5, none⟩) (v := .int .i64 1) zF
          generalize hw_w9 : w8.setCell ⟨w.heap.size, 5, none⟩ (.int .i64 1) = w9 at *
          have hbw9 : Below w.heap.size w w9 := hw_w9 ▸ Below.setCell (p := ⟨w.heap.size, 5, none⟩) hbw8 (Nat.le_refl _) _
          have hq9 := SeqP.set (p := ⟨w.heap.size, 5, none⟩) hq8 (by dsimp only; omega) (.int .i64 1)
          have hy9 := SeqP.set (p := ⟨w.heap.size, 5, none⟩) hy8 (by dsimp only; omega) (.int .i64 1)
          rw [hw_w9] at hq9 hy9
          clear hw_w9
          generalize hw_w10 : ((((((w9.setCell ⟨w.heap.size + 1 + 1, 0, none⟩ (.int .i64 g.s.app)).setCell ⟨w.heap.size + 1 + 1, 1, none⟩ (.slice A1 g.s.who.length c1)).setCell ⟨w.heap.size + 1 + 1, 2, none⟩ (.int .i64 g.s.exp)).setCell ⟨w.heap.size + 1 + 1, 3, none⟩ (.int .i64 g.opened)).setCell ⟨w.heap.size + 1 + 1, 4, none⟩ (.slice A3 (g.yes.length + 1) c3)).setCell ⟨w.heap.size + 1 + 1, 5, none⟩ (.int .i64 1)) = w10 at *
          obtain ⟨⟨nz0, nz1, nz2, nz3, nz4, nz5⟩, far_w10, frz_w10, hsz_w10, bel_w10, own_w10⟩ := six_ok (.int .i64 g.s.app) (.slice A1 g.s.who.length c1) (.int .i64 g.s.exp) (.int .i64 g.opened) (.slice A3 (g.yes.length + 1) c3) (.int .i64 1) z0 z1 z2 z3 z4 z5 w10 hw_w10
          clear z0 z1 z2 z3 z4 z5 hw_w10
          have z0 := nz0
          have z1 := nz1
          have z2 := nz2
          have z3 := nz3
          have z4 := nz4
          have z5 := nz5
          clear nz0 nz1 nz2 nz3 nz4 nz5
          replace d0 := (far_w10 ⟨w.heap.size, 0, none⟩ (by dsimp only; omega)).trans d0
          replace d1 := (far_w10 ⟨w.heap.size, 1, none⟩ (by dsimp only; omega)).trans d1
          replace d2 := (far_w10 ⟨w.heap.size, 2, none⟩ (by dsimp only; omega)).trans d2
          replace d3 := (far_w10 ⟨w.heap.size, 3, none⟩ (by dsimp only; omega)).trans d3
          replace d4 := (far_w10 ⟨w.heap.size, 4, none⟩ (by dsimp only; omega)).trans d4
          replace d5 := (far_w10 ⟨w.heap.size, 5, none⟩ (by dsimp only; omega)).trans d5
          replace dF := fun j => (frz_w10 ⟨w.heap.size, j, none⟩).trans (dF j)
          replace y0 := (far_w10 ⟨w.heap.size + 1, 0, none⟩ (by dsimp only; omega)).trans y0
          replace yF := fun j => (frz_w10 ⟨w.heap.size + 1, j, none⟩).trans (yF j)
          replace zF := fun j => (frz_w10 ⟨w.heap.size + 1 + 1, j, none⟩).trans (zF j)
          have hbz := bel_w10 _ _ (by omega) hbw9
          have r1 := (SeqP.map hq9 (fun p hp => far_w10 p (by have := hp.1; omega)) fun _ h => h).lo (lo := w.heap.size) (fun b hb => by have := hb.1; omega)
          have r2 := (SeqP.map hy9 (fun p hp => far_w10 p (by have := hp.1; omega)) fun _ h => h).lo (lo := w.heap.size) (fun b hb => by have := hb.1; omega)
          clear far_w10 frz_w10 hsz_w10 bel_w10 own_w10 d0 d1 d2 d3 d4 d5 y0
          refine bodyPost_ret (v := .tuple #[.agg #[.int .i64 g.s.app, .slice A1 g.s.who.length c1, .int .i64 g.s.exp, .int .i64 g.opened, .slice A3 (g.yes.length + 1) c3, .int .i64 1], .int .i64 0]) (by simp only [results, Tryd.results16]; go_simp; try (first | rfl | exact ⟨rfl, rfl, rfl, rfl, rfl, rfl⟩)) rfl ?_
          refine ⟨A1, c1, A3, c3, ?_, hbz, r1, by show SeqP _ _ 1 A3 (putL g.yes who).length _; rw [putL_len]; exact r2⟩
          show _ = Ending.returned (.tuple #[.agg #[.int .i64 g.s.app, .slice A1 g.s.who.length c1, .int .i64 g.s.exp, .int .i64 g.opened, .slice A3 (putL g.yes who).length c3, .int .i64 (if g.s.app ≤ (g.yes.length : Int) + 1 then 1 else g.state)], .int .i64 0])
          rw [putL_len, if_pos ha]
        · repeat' ((fail_if_success at_builtin); (first | go_skip | go_guarded | go_step))
          replace d0 := (World.cell?_setCell_other w7 ⟨w.heap.size, 4, none⟩ ⟨w.heap.size, 0, none⟩ (.slice A3 (g.yes.length + 1) c3) (by simp)).trans d0
          replace d1 := (World.cell?_setCell_other w7 ⟨w.heap.size, 4, none⟩ ⟨w.heap.size, 1, none⟩ (.slice A3 (g.yes.length + 1) c3) (by simp)).trans d1
          replace d2 := (World.cell?_setCell_other w7 ⟨w.heap.size, 4, none⟩ ⟨w.heap.size, 2, none⟩ (.slice A3 (g.yes.length + 1) c3) (by simp)).trans d2
          replace d3 := (World.cell?_setCell_other w7 ⟨w.heap.size, 4, none⟩ ⟨w.heap.size, 3, none⟩ (.slice A3 (g.yes.length + 1) c3) (by simp)).trans d3
          replace d4 := World.cell?_setCell_same w7 _ (.slice A3 (g.yes.length + 1) c3) d4
          replace d5 := (World.cell?_setCell_other w7 ⟨w.heap.size, 4, none⟩ ⟨w.heap.size, 5, none⟩ (.slice A3 (g.yes.length + 1) c3) (by simp)).trans d5
          replace dF := frz_set (p := ⟨w.heap.size, 4, none⟩) (v := .slice A3 (g.yes.length + 1) c3) dF
          replace y0 := (World.cell?_setCell_far w7 ⟨w.heap.size, 4, none⟩ ⟨w.heap.size + 1, 0, none⟩ (.slice A3 (g.yes.length + 1) c3) (by dsimp only; omega)).trans y0
          replace yF := frz_set (p := ⟨w.heap.size, 4, none⟩) (v := .slice A3 (g.yes.length + 1) c3) yF
          replace z0 := (World.cell?_setCell_far w7 ⟨w.heap.size, 4, none⟩ ⟨w.heap.size + 1 + 1, 0, none⟩ (.slice A3 (g.yes.length + 1) c3) (by dsimp only; omega)).trans z0
          replace z1 := (World.cell?_setCell_far w7 ⟨w.heap.size, 4, none⟩ ⟨w.heap.size + 1 + 1, 1, none⟩ (.slice A3 (g.yes.length + 1) c3) (by dsimp only; omega)).trans z1
          replace z2 := (World.cell?_setCell_far w7 ⟨w.heap.size, 4, none⟩ ⟨w.heap.size + 1 + 1, 2, none⟩ (.slice A3 (g.yes.length + 1) c3) (by dsimp only; omega)).trans z2
          replace z3 := (World.cell?_setCell_far w7 ⟨w.heap.size, 4, none⟩ ⟨w.heap.size + 1 + 1, 3, none⟩ (.slice A3 (g.yes.length + 1) c3) (by dsimp only; omega)).trans z3
          replace z4 := (World.cell?_setCell_far w7 ⟨w.heap.size, 4, none⟩ ⟨w.heap.size + 1 + 1, 4, none⟩ (.slice A3 (g.yes.length + 1) c3) (by dsimp only; omega)).trans z4
          replace z5 := (World.cell?_setCell_far w7 ⟨w.heap.size, 4, none⟩ ⟨w.heap.size + 1 + 1, 5, none⟩ (.slice A3 (g.yes.length + 1) c3) (by dsimp only; omega)).trans z5
          replace zF := frz_set (p := ⟨w.heap.size, 4, none⟩) (v := .slice A3 (g.yes.length + 1) c3) zF
          generalize hw_w8 : w7.setCell ⟨w.heap.size, 4, none⟩ (.slice A3 (g.yes.length + 1) c3) = w8 at *
          have hbw8 : Below w.heap.size w w8 := hw_w8 ▸ Below.setCell (p := ⟨w.heap.size, 4, none⟩) hbw7 (Nat.le_refl _) _
          have hq8 := SeqP.set (p := ⟨w.heap.size, 4, none⟩) hq7 (by dsimp only; omega) (.slice A3 (g.yes.length + 1) c3)
          have hy8 := SeqP.set (p := ⟨w.heap.size, 4, none⟩) hqy (by dsimp only; omega) (.slice A3 (g.yes.length + 1) c3)
          rw [hw_w8] at hq8 hy8
          clear hw_w8
          generalize hw_w10 : ((((((w8.setCell ⟨w.heap.size + 1 + 1, 0, none⟩ (.int .i64 g.s.app)).setCell ⟨w.heap.size + 1 + 1, 1, none⟩ (.slice A1 g.s.who.length c1)).setCell ⟨w.heap.size + 1 + 1, 2, none⟩ (.int .i64 g.s.exp)).setCell ⟨w.heap.size + 1 + 1, 3, none⟩ (.int .i64 g.opened)).setCell ⟨w.heap.size + 1 + 1, 4, none⟩ (.slice A3 (g.yes.length + 1) c3)).setCell ⟨w.heap.size + 1 + 1, 5, none⟩ (.int .i64 g.state)) = w10 at *
          obtain ⟨⟨nz0, nz1, nz2, nz3, nz4, nz5⟩, far_w10, frz_w10, hsz_w10, bel_w10, own_w10⟩ := six_ok (.int .i64 g.s.app) (.slice A1 g.s.who.length c1) (.int .i64 g.s.exp) (.int .i64 g.opened) (.slice A3 (g.yes.length + 1) c3) (.int .i64 g.state) z0 z1 z2 z3 z4 z5 w10 hw_w10
          clear z0 z1 z2 z3 z4 z5 hw_w10
          have z0 := nz0
          have z1 := nz1
          have z2 := nz2
          have z3 := nz3
          have z4 := nz4
          have z5 := nz5
          clear nz0 nz1 nz2 nz3 nz4 nz5
          replace d0 := (far_w10 ⟨w.heap.size, 0, none⟩ (by dsimp only; omega)).trans d0
          replace d1 := (far_w10 ⟨w.heap.size, 1, none⟩ (by dsimp only; omega)).trans d1
          replace d2 := (far_w10 ⟨w.heap.size, 2, none⟩ (by dsimp only; omega)).trans d2
          replace d3 := (far_w10 ⟨w.heap.size, 3, none⟩ (by dsimp only; omega)).trans d3
          replace d4 := (far_w10 ⟨w.heap.size, 4, none⟩ (by dsimp only; omega)).trans d4
          replace d5 := (far_w10 ⟨w.heap.size, 5, none⟩ (by dsimp only; omega)).trans d5
          replace dF := fun j => (frz_w10 ⟨w.heap.size, j, none⟩).trans (dF j)
          replace y0 := (far_w10 ⟨w.heap.size + 1, 0, none⟩ (by dsimp only; omega)).trans y0
          replace yF := fun j => (frz_w10 ⟨w.heap.size + 1, j, none⟩).trans (yF j)
          replace zF := fun j => (frz_w10 ⟨w.heap.size + 1 + 1, j, none⟩).trans (zF j)
          have hbz := bel_w10 _ _ (by omega) hbw8
          have r1 := (SeqP.map hq8 (fun p hp => far_w10 p (by have := hp.1; omega)) fun _ h => h).lo (lo := w.heap.size) (fun b hb => by have := hb.1; omega)
          have r2 := (SeqP.map hy8 (fun p hp => far_w10 p (by have := hp.1; omega)) fun _ h => h).lo (lo := w.heap.size) (fun b hb => by have := hb.1; omega)
          clear far_w10 frz_w10 hsz_w10 bel_w10 own_w10 d0 d1 d2 d3 d4 d5 y0
          refine bodyPost_ret (v := .tuple #[.agg #[.int .i64 g.s.app, .slice A1 g.s.who.length c1, .int .i64 g.s.exp, .int .i64 g.opened, .slice A3 (g.yes.length + 1) c3, .int .i64 g.state], .int .i64 0]) (by simp only [results, Tryd.results16]; go_simp; try (first | rfl | exact ⟨rfl, rfl, rfl, rfl, rfl, rfl⟩)) rfl ?_
          refine ⟨A1, c1, A3, c3, ?_, hbz, r1, by show SeqP _ _ 1 A3 (putL g.yes who).length _; rw [putL_len]; exact r2⟩
          show _ = Ending.returned (.tuple #[.agg #[.int .i64 g.s.app, .slice A1 g.s.who.length c1, .int .i64 g.s.exp, .int .i64 g.opened, .slice A3 (putL g.yes who).length c3, .int .i64 (if g.s.app ≤ (g.yes.length : Int) + 1 then 1 else g.state)], .int .i64 0])
          rw [putL_len, if_neg ha]
      · rw [if_neg (by omega)] at C
        subst hp
        replace C := Lib.hid C
        replace CI := Lib.hid CI
        repeat' ((fail_if_success at_builtin); (first | go_skip | go_guarded | go_step))
        refine C.out.mono ?_
        rintro e w6 ⟨rfl, hb6⟩
        dsimp only
        replace d0 := (hb6.cell (p := ⟨w.heap.size, 0, none⟩) (by dsimp only; omega)).trans d0
        replace d1 := (hb6.cell (p := ⟨w.heap.size, 1, none⟩) (by dsimp only; omega)).trans d1
        replace d2 := (hb6.cell (p := ⟨w.heap.size, 2, none⟩) (by dsimp only; omega)).trans d2
        replace d3 := (hb6.cell (p := ⟨w.heap.size, 3, none⟩) (by dsimp only; omega)).trans d3
        replace d4 := (hb6.cell (p := ⟨w.heap.size, 4, none⟩) (by dsimp only; omega)).trans d4
        replace d5 := (hb6.cell (p := ⟨w.heap.size, 5, none⟩) (by dsimp only; omega)).trans d5
        replace dF := frz_below hb6 (by omega) dF
        replace y0 := (hb6.cell (p := ⟨w.heap.size + 1, 0, none⟩) (by dsimp only; omega)).trans y0
        replace yF := frz_below hb6 (by omega) yF
        replace z0 := (hb6.cell (p := ⟨w.heap.size + 1 + 1, 0, none⟩) (by dsimp only; omega)).trans z0
        replace z1 := (hb6.cell (p := ⟨w.heap.size + 1 + 1, 1, none⟩) (by dsimp only; omega)).trans z1
        replace z2 := (hb6.cell (p := ⟨w.heap.size + 1 + 1, 2, none⟩) (by dsimp only; omega)).trans z2
        replace z3 := (hb6.cell (p := ⟨w.heap.size + 1 + 1, 3, none⟩) (by dsimp only; omega)).trans z3
        replace z4 := (hb6.cell (p := ⟨w.heap.size + 1 + 1, 4, none⟩) (by dsimp only; omega)).trans z4
        replace z5 := (hb6.cell (p := ⟨w.heap.size + 1 + 1, 5, none⟩) (by dsimp only; omega)).trans z5
        replace zF := frz_below hb6 (by omega) zF
        have hbw6 := hbw4.trans (hb6.mono hbw4.size)
        have hq6 := hq4.belowS hb6 (fun b hb => Nat.lt_of_lt_of_le hb.2 hBw4)
        have hz6 := hb6.size
        repeat' ((fail_if_success at_builtin); (first | go_skip | go_guarded | go_step))
        refine (CI.out w6 hb6).mono ?_
        rintro e w7 ⟨A3, c3, rfl, hqy, hb7⟩
        dsimp only
        replace d0 := (hb7.cell (p := ⟨w.heap.size, 0, none⟩) (by dsimp only; omega)).trans d0
        replace d1 := (hb7.cell (p := ⟨w.heap.size, 1, none⟩) (by dsimp only; omega)).trans d1
        replace d2 := (hb7.cell (p := ⟨w.heap.size, 2, none⟩) (by dsimp only; omega)).trans d2
        replace d3 := (hb7.cell (p := ⟨w.heap.size, 3, none⟩) (by dsimp only; omega)).trans d3
        replace d4 := (hb7.cell (p := ⟨w.heap.size, 4, none⟩) (by dsimp only; omega)).trans d4
        replace d5 := (hb7.cell (p := ⟨w.heap.size, 5, none⟩) (by dsimp only; omega)).trans d5
        replace dF := frz_below hb7 (by omega) dF
        replace y0 := (hb7.cell (p := ⟨w.heap.size + 1, 0, none⟩) (by dsimp only; omega)).trans y0
        replace yF := frz_below hb7 (by omega) yF
        replace z0 := (hb7.cell (p := ⟨w.heap.size + 1 + 1, 0, none⟩) (by dsimp only; omega)).trans z0
        replace z1 := (hb7.cell (p := ⟨w.heap.size + 1 + 1, 1, none⟩) (by dsimp only; omega)).trans z1
        replace z2 := (hb7.cell (p := ⟨w.heap.size + 1 + 1, 2, none⟩) (by dsimp only; omega)).trans z2
        replace z3 := (hb7.cell (p := ⟨w.heap.size + 1 + 1, 3, none⟩) (by dsimp only; omega)).trans z3
        replace z4 := (hb7.cell (p := ⟨w.heap.size + 1 + 1, 4, none⟩) (by dsimp only; omega)).trans z4
        replace z5 := (hb7.cell (p := ⟨w.heap.size + 1 + 1, 5, none⟩) (by dsimp only; omega)).trans z5
        replace zF := frz_below hb7 (by omega) zF
        have hbw7 := hbw6.trans (hb7.mono (by omega))
        have hq7 := hq6.belowS hb7 (fun b hb => hb.2)
        have hz7 := hb7.size
        clear C CI hq4 ho4 hq4' hq6
        by_cases ha : g.s.app ≤ (g.yes.length : Int) + 1
        · repeat' ((fail_if_success at_builtin); (first | go_skip | go_guarded | go_step))
          replace d0 := (World.cell?_setCell_other w7 ⟨w.heap.size, 4, none⟩ ⟨w.heap.size, 0, none⟩ (.slice A3 (g.yes.length + 1) c3) (by simp)).trans d0
          replace d1 := (World.cell?_setCell_other w7 ⟨w.heap.size, 4, none⟩ ⟨w.heap.size, 1, none⟩ (.slice A3 (g.yes.length + 1) c3) (by simp)).trans d1
          replace d2 := (World.cell?_setCell_other w7 ⟨w.heap.size, 4, none⟩ ⟨w.heap.size, 2, none⟩ (.slice A3 (g.yes.length + 1) c3) (by simp)).trans d2
          replace d3 := (World.cell?_setCell_other w7 ⟨w.heap.size, 4, none⟩ ⟨w.heap.size, 3, none⟩ (.slice A3 (g.yes.length + 1) c3) (by simp)).trans d3
          replace d4 := World.cell?_setCell_same w7 _ (.slice A3 (g.yes.length + 1) c3) d4
          replace d5 := (World.cell?_setCell_other w7 ⟨w.heap.size, 4, none⟩ ⟨w.heap.size, 5, none⟩ (.slice A3 (g.yes.length + 1) c3) (by simp)).trans d5
          replace dF := frz_set (p := ⟨w.heap.size, 4, none⟩) (v := .slice A3 (g.yes.length + 1) c3) dF
          replace y0 := (World.cell?_setCell_far w7 ⟨w.heap.size, 4, none⟩ ⟨w.heap.size + 1, 0, none⟩ (.slice A3 (g.yes.length + 1) c3) (by dsimp only; omega)).trans y0
          replace yF := frz_set (p := ⟨w.heap.size, 4, none⟩) (v := .slice A3 (g.yes.length + 1) c3) yF
          replace z0 := (World.cell?_setCell_far w7 ⟨w.heap.size, 4, none⟩ ⟨w.heap.size + 1 + 1, 0, none⟩ (.slice A3 (g.yes.length + 1) c3) (by dsimp only; omega)).trans z0
          replace z1 := (World.cell?_setCell_far w7 ⟨w.heap.size, 4, none⟩ ⟨w.heap.size + 1 + 1, 1, none⟩ (.slice A3 (g.yes.length + 1) c3) (by dsimp only; omega)).trans z1
          replace z2 := (World.cell?_setCell_far w7 ⟨w.heap.size, 4, none⟩ ⟨w.heap.size + 1 + 1, 2, none⟩ (.slice A3 (g.yes.length + 1) c3) (by dsimp only; omega)).trans z2
          replace z3 := (World.cell?_setCell_far w7 ⟨w.heap.size, 4, none⟩ ⟨w.heap.size + 1 + 1, 3, none⟩ (.slice A3 (g.yes.length + 1) c3) (by dsimp only; omega)).trans z3
          replace z4 := (World.cell?_setCell_far w7 ⟨w.heap.size, 4, none⟩ ⟨w.heap.size + 1 + 1, 4, none⟩ (.slice A3 (g.yes.length + 1) c3) (by dsimp only; omega)).trans z4
          replace z5 := (World.cell?_setCell_far w7 ⟨w.heap.size, 4, none⟩ ⟨w.heap.size + 1 + 1, 5, none⟩ (.slice A3 (g.yes.length + 1) c3) (by dsimp only; omega)).trans z5
          replace zF := frz_set (p := ⟨w.heap.size, 4, none⟩) (v := .slice A3 (g.yes.length + 1) c3) zF
          generalize hw_w8 : w7.setCell ⟨w.heap.size, 4, none⟩ (.slice A3 (g.yes.length + 1) c3) = w8 at *
          have hbw8 : Below w.heap.size w w8 := hw_w8 ▸ Below.setCell (p := ⟨w.heap.size, 4, none⟩) hbw7 (Nat.le_refl _) _
          have hq8 := SeqP.set (p := ⟨w.heap.size, 4, none⟩) hq7 (by dsimp only; omega) (.slice A3 (g.yes.length + 1) c3)
          have hy8 := SeqP.set (p := ⟨w.heap.size, 4, none⟩) hqy (by dsimp only; omega) (.slice A3 (g.yes.length + 1) c3)
          rw [hw_w8] at hq8 hy8
          clear hw_w8
          replace d0 := (World.cell?_setCell_other w8 ⟨w.heap.size, 5, none⟩ ⟨w.heap.size, 0, none⟩ (.int .i64 1) (by simp)).trans d0
          replace d1 := (World.cell?_setCell_other w8 ⟨w.heap.size, 5, none⟩ ⟨w.heap.size, 1, none⟩ (.int .i64 1) (by simp)).trans d1
          replace d2 := (World.cell?_setCell_other w8 ⟨w.heap.size, 5, none⟩ ⟨w.heap.size, 2, none⟩ (.int .i64 1) (by simp)).trans d2
          replace d3 := (World.cell?_setCell_other w8 ⟨w.heap.size, 5, none⟩ ⟨w.heap.size, 3, none⟩ (.int .i64 1) (by simp)).trans d3
          replace d4 := (World.cell?_setCell_other w8 ⟨w.heap.size, 5, none⟩ ⟨w.heap.size, 4, none⟩ (.int .i64 1) (by simp)).trans d4
          replace d5 := World.cell?_setCell_same w8 _ (.int .i64 1) d5
          replace dF := frz_set (p := ⟨w.heap.size, 5, none⟩) (v := .int .i64 1) dF
          replace y0 := (World.cell?_setCell_far w8 ⟨w.heap.size, 5, none⟩ ⟨w.heap.size + 1, 0, none⟩ (.int .i64 1) (by dsimp only; omega)).trans y0
          replace yF := frz_set (p := ⟨w.heap.size, 5, none⟩) (v := .int .i64 1) yF
          replace z0 := (World.cell?_setCell_far w8 ⟨w.heap.size, 5, none⟩ ⟨w.heap.size + 1 + 1, 0, none⟩ (.int .i64 1) (by dsimp only; omega)).trans z0
          replace z1 := (World.cell?_setCell_far w8 ⟨w.heap.size, 5, none⟩ ⟨w.heap.size + 1 + 1, 1, none⟩ (.int .i64 1) (by dsimp only; omega)).trans z1
          replace z2 := (World.cell?_setCell_far w8 ⟨w.heap.size, 5, none⟩ ⟨w.heap.size + 1 + 1, 2, none⟩ (.int .i64 1) (by dsimp only; omega)).trans z2
          replace z3 := (World.cell?_setCell_far w8 ⟨w.heap.size, 5, none⟩ ⟨w.heap.size + 1 + 1, 3, none⟩ (.int .i64 1) (by dsimp only; omega)).trans z3
          replace z4 := (World.cell?_setCell_far w8 ⟨w.heap.size, 5, none⟩ ⟨w.heap.size + 1 + 1, 4, none⟩ (.int .i64 1) (by dsimp only; omega)).trans z4
          replace z5 := (World.cell?_setCell_far w8 ⟨w.heap.size, 5, none⟩ ⟨w.heap.size + 1 + 1, 5, none⟩ (.int .i64 1) (by dsimp only; omega)).trans z5
          replace zF := frz_set (p := ⟨w.heap.size, 5, none⟩) (v := .int .i64 1) zF
          generalize hw_w9 : w8.setCell ⟨w.heap.size, 5, none⟩ (.int .i64 1) = w9 at *
          have hbw9 : Below w.heap.size w w9 := hw_w9 ▸ Below.setCell (p := ⟨w.heap.size, 5, none⟩) hbw8 (Nat.le_refl _) _
          have hq9 := SeqP.set (p := ⟨w.heap.size, 5, none⟩) hq8 (by dsimp only; omega) (.int .i64 1)
          have hy9 := SeqP.set (p := ⟨w.heap.size, 5, none⟩) hy8 (by dsimp only; omega) (.int .i64 1)
          rw [hw_w9] at hq9 hy9
          clear hw_w9
          generalize hw_w10 : ((((((w9.setCell ⟨w.heap.size + 1 + 1, 0, none⟩ (.int .i64 g.s.app)).setCell ⟨w.heap.size + 1 + 1, 1, none⟩ (.slice A1 g.s.who.length c1)).setCell ⟨w.heap.size + 1 + 1, 2, none⟩ (.int .i64 g.s.exp)).setCell ⟨w.heap.size + 1 + 1, 3, none⟩ (.int .i64 g.opened)).setCell ⟨w.heap.size + 1 + 1, 4, none⟩ (.slice A3 (g.yes.length + 1) c3)).setCell ⟨w.heap.size + 1 + 1, 5, none⟩ (.int .i64 1)) = w10 at *
          obtain ⟨⟨nz0, nz1, nz2, nz3, nz4, nz5⟩, far_w10, frz_w10, hsz_w10, bel_w10, own_w10⟩ := six_ok (.int .i64 g.s.app) (.slice A1 g.s.who.length c1) (.int .i64 g.s.exp) (.int .i64 g.opened) (.slice A3 (g.yes.length + 1) c3) (.int .i64 1) z0 z1 z2 z3 z4 z5 w10 hw_w10
          clear z0 z1 z2 z3 z4 z5 hw_w10
          have z0 := nz0
          have z1 := nz1
          have z2 := nz2
          have z3 := nz3
          have z4 := nz4
          have z5 := nz5
          clear nz0 nz1 nz2 nz3 nz4 nz5
          replace d0 := (far_w10 ⟨w.heap.size, 0, none⟩ (by dsimp only; omega)).trans d0
          replace d1 := (far_w10 ⟨w.heap.size, 1, none⟩ (by dsimp only; omega)).trans d1
          replace d2 := (far_w10 ⟨w.heap.size, 2, none⟩ (by dsimp only; omega)).trans d2
          replace d3 := (far_w10 ⟨w.heap.size, 3, none⟩ (by dsimp only; omega)).trans d3
          replace d4 := (far_w10 ⟨w.heap.size, 4, none⟩ (by dsimp only; omega)).trans d4
          replace d5 := (far_w10 ⟨w.heap.size, 5, none⟩ (by dsimp only; omega)).trans d5
          replace dF := fun j => (frz_w10 ⟨w.heap.size, j, none⟩).trans (dF j)
          replace y0 := (far_w10 ⟨w.heap.size + 1, 0, none⟩ (by dsimp only; omega)).trans y0
          replace yF := fun j => (frz_w10 ⟨w.heap.size + 1, j, none⟩).trans (yF j)
          replace zF := fun j => (frz_w10 ⟨w.heap.size + 1 + 1, j, none⟩).trans (zF j)
          have hbz := bel_w10 _ _ (by omega) hbw9
          have r1 := (SeqP.map hq9 (fun p hp => far_w10 p (by have := hp.1; omega)) fun _ h => h).lo (lo := w.heap.size) (fun b hb => by have := hb.1; omega)
          have r2 := (SeqP.map hy9 (fun p hp => far_w10 p (by have := hp.1; omega)) fun _ h => h).lo (lo := w.heap.size) (fun b hb => by have := hb.1; omega)
          clear far_w10 frz_w10 hsz_w10 bel_w10 own_w10 d0 d1 d2 d3 d4 d5 y0
          refine bodyPost_ret (v := .tuple #[.agg #[.int .i64 g.s.app, .slice A1 g.s.who.length c1, .int .i64 g.s.exp, .int .i64 g.opened, .slice A3 (g.yes.length + 1) c3, .int .i64 1], .int .i64 0]) (by simp only [results, Tryd.results16]; go_simp; try (first | rfl | exact ⟨rfl, rfl, rfl, rfl, rfl, rfl⟩)) rfl ?_
          refine ⟨A1, c1, A3, c3, ?_, hbz, r1, by show SeqP _ _ 1 A3 (putL g.yes who).length _; rw [putL_len]; exact r2⟩
          show _ = Ending.returned (.tuple #[.agg #[.int .i64 g.s.app, .slice A1 g.s.who.length c1, .int .i64 g.s.exp, .int .i64 g.opened, .slice A3 (putL g.yes who).length c3, .int .i64 (if g.s.app ≤ (g.yes.length : Int) + 1 then 1 else g.state)], .int .i64 0])
          rw [putL_len, if_pos ha]
        · repeat' ((fail_if_success at_builtin); (first | go_skip | go_guarded | go_step))
          replace d0 := (World.cell?_setCell_other w7 ⟨w.heap.size, 4, none⟩ ⟨w.heap.size, 0, none⟩ (.slice A3 (g.yes.length + 1) c3) (by simp)).trans d0
          replace d1 := (World.cell?_setCell_other w7 ⟨w.heap.size, 4, none⟩ ⟨w.heap.size, 1, none⟩ (.slice A3 (g.yes.length + 1) c3) (by simp)).trans d1
          replace d2 := (World.cell?_setCell_other w7 ⟨w.heap.size, 4, none⟩ ⟨w.heap.size, 2, none⟩ (.slice A3 (g.yes.length + 1) c3) (by simp)).trans d2
          replace d3 := (World.cell?_setCell_other w7 ⟨w.heap.size, 4, none⟩ ⟨w.heap.size, 3, none⟩ (.slice A3 (g.yes.length + 1) c3) (by simp)).trans d3
          replace d4 := World.cell?_setCell_same w7 _ (.slice A3 (g.yes.length + 1) c3) d4
          replace d5 := (World.cell?_setCell_other w7 ⟨w.heap.size, 4, none⟩ ⟨w.heap.size, 5, none⟩ (.slice A3 (g.yes.length + 1) c3) (by simp)).trans d5
          replace dF := frz_set (p := ⟨w.heap.size, 4, none⟩) (v := .slice A3 (g.yes.length + 1) c3) dF
          replace y0 := (World.cell?_setCell_far w7 ⟨w.heap.size, 4, none⟩ ⟨w.heap.size + 1, 0, none⟩ (.slice A3 (g.yes.length + 1) c3) (by dsimp only; omega)).trans y0
          replace yF := frz_set (p := ⟨w.heap.size, 4, none⟩) (v := .slice A3 (g.yes.length + 1) c3) yF
          replace z0 := (World.cell?_setCell_far w7 ⟨w.heap.size, 4, none⟩ ⟨w.heap.size + 1 + 1, 0, none⟩ (.slice A3 (g.yes.length + 1) c3) (by dsimp only; omega)).trans z0
          replace z1 := (World.cell?_setCell_far w7 ⟨w.heap.size, 4, none⟩ ⟨w.heap.size + 1 + 1, 1, none⟩ (.slice A3 (g.yes.length + 1) c3) (by dsimp only; omega)).trans z1
          replace z2 := (World.cell?_setCell_far w7 ⟨w.heap.size, 4, none⟩ ⟨w.heap.size + 1 + 1, 2, none⟩ (.slice A3 (g.yes.length + 1) c3) (by dsimp only; omega)).trans z2
          replace z3 := (World.cell?_setCell_far w7 ⟨w.heap.size, 4, none⟩ ⟨w.heap.size + 1 + 1, 3, none⟩ (.slice A3 (g.yes.length + 1) c3) (by dsimp only; omega)).trans z3
          replace z4 := (World.cell?_setCell_far w7 ⟨w.heap.size, 4, none⟩ ⟨w.heap.size + 1 + 1, 4, none⟩ (.slice A3 (g.yes.length + 1) c3) (by dsimp only; omega)).trans z4
          replace z5 := (World.cell?_setCell_far w7 ⟨w.heap.size, 4, none⟩ ⟨w.heap.size + 1 + 1, 5, none⟩ (.slice A3 (g.yes.length + 1) c3) (by dsimp only; omega)).trans z5
          replace zF := frz_set (p := ⟨w.heap.size, 4, none⟩) (v := .slice A3 (g.yes.length + 1) c3) zF
          generalize hw_w8 : w7.setCell ⟨w.heap.size, 4, none⟩ (.slice A3 (g.yes.length + 1) c3) = w8 at *
          have hbw8 : Below w.heap.size w w8 := hw_w8 ▸ Below.setCell (p := ⟨w.heap.size, 4, none⟩) hbw7 (Nat.le_refl _) _
          have hq8 := SeqP.set (p := ⟨w.heap.size, 4, none⟩) hq7 (by dsimp only; omega) (.slice A3 (g.yes.length + 1) c3)
          have hy8 := SeqP.set (p := ⟨w.heap.size, 4, none⟩) hqy (by dsimp only; omega) (.slice A3 (g.yes.length + 1) c3)
          rw [hw_w8] at hq8 hy8
          clear hw_w8
          generalize hw_w10 : ((((((w8.setCell ⟨w.heap.size + 1 + 1, 0, none⟩ (.int .i64 g.s.app)).setCell ⟨w.heap.size + 1 + 1, 1, none⟩ (.slice A1 g.s.who.length c1)).setCell ⟨w.heap.size + 1 + 1, 2, none⟩ (.int .i64 g.s.exp)).setCell ⟨w.heap.size + 1 + 1, 3, none⟩ (.int .i64 g.opened)).setCell ⟨w.heap.size + 1 + 1, 4, none⟩ (.slice A3 (g.yes.length + 1) c3)).setCell ⟨w.heap.size + 1 + 1, 5, none⟩ (.int .i64 g.state)) = w10 at *
          obtain ⟨⟨nz0, nz1, nz2, nz3, nz4, nz5⟩, far_w10, frz_w10, hsz_w10, bel_w10, own_w10⟩ := six_ok (.int .i64 g.s.app) (.slice A1 g.s.who.length c1) (.int .i64 g.s.exp) (.int .i64 g.opened) (.slice A3 (g.yes.length + 1) c3) (.int .i64 g.state) z0 z1 z2 z3 z4 z5 w10 hw_w10
          clear z0 z1 z2 z3 z4 z5 hw_w10
          have z0 := nz0
          have z1 := nz1
          have z2 := nz2
          have z3 := nz3
          have z4 := nz4
          have z5 := nz5
          clear nz0 nz1 nz2 nz3 nz4 nz5
          replace d0 := (far_w10 ⟨w.heap.size, 0, none⟩ (by dsimp only; omega)).trans d0
          replace d1 := (far_w10 ⟨w.heap.size, 1, none⟩ (by dsimp only; omega)).trans d1
          replace d2 := (far_w10 ⟨w.heap.size, 2, none⟩ (by dsimp only; omega)).trans d2
          replace d3 := (far_w10 ⟨w.heap.size, 3, none⟩ (by dsimp only; omega)).trans d3
          replace d4 := (far_w10 ⟨w.heap.size, 4, none⟩ (by dsimp only; omega)).trans d4
          replace d5 := (far_w10 ⟨w.heap.size, 5, none⟩ (by dsimp only; omega)).trans d5
          replace dF := fun j => (frz_w10 ⟨w.heap.size, j, none⟩).trans (dF j)
          replace y0 := (far_w10 ⟨w.heap.size + 1, 0, none⟩ (by dsimp only; omega)).trans y0
          replace yF := fun j => (frz_w10 ⟨w.heap.size + 1, j, none⟩).trans (yF j)
          replace zF := fun j => (frz_w10 ⟨w.heap.size + 1 + 1, j, none⟩).trans (zF j)
          have hbz := bel_w10 _ _ (by omega) hbw8
          have r1 := (SeqP.map hq8 (fun p hp => far_w10 p (by have := hp.1; omega)) fun _ h => h).lo (lo := w.heap.size) (fun b hb => by have := hb.1; omega)
          have r2 := (SeqP.map hy8 (fun p hp => far_w10 p (by have := hp.1; omega)) fun _ h => h).lo (lo := w.heap.size) (fun b hb => by have := hb.1; omega)
          clear far_w10 frz_w10 hsz_w10 bel_w10 own_w10 d0 d1 d2 d3 d4 d5 y0
          refine bodyPost_ret (v := .tuple #[.agg #[.int .i64 g.s.app, .slice A1 g.s.who.length c1, .int .i64 g.s.exp, .int .i64 g.opened, .slice A3 (g.yes.length + 1) c3, .int .i64 g.state], .int .i64 0]) (by simp only [results, Tryd.results16]; go_simp; try (first | rfl | exact ⟨rfl, rfl, rfl, rfl, rfl, rfl⟩)) rfl ?_
          refine ⟨A1, c1, A3, c3, ?_, hbz, r1, by show SeqP _ _ 1 A3 (putL g.yes who).length _; rw [putL_len]; exact r2⟩
          show _ = Ending.returned (.tuple #[.agg #[.int .i64 g.s.app, .slice A1 g.s.who.length c1, .int .i64 g.s.exp, .int .i64 g.opened, .slice A3 (putL g.yes who).length c3, .int .i64 (if g.s.app ≤ (g.yes.length : Int) + 1 then 1 else g.state)], .int .i64 0])
          rw [putL_len, if_neg ha]
  · have p0 : (k != 0) = true := by simp [hk]
    have hE' := hE.out
    rw [if_pos hk] at hE'
    have hG' := hG.out
    rw [if_pos (by rw [hE']; exact hk)] at hG'
    subst hE' hG'
    clear hE hG hk
    repeat' ((fail_if_success at_builtin); (first | go_skip | go_guarded | go_step))
    generalize hw_w5 : ((((((w4.setCell ⟨w.heap.size + 1 + 1, 0, none⟩ (.int .i64 g'.s.app)).setCell ⟨w.heap.size + 1 + 1, 1, none⟩ (.slice A1 g'.s.who.length c1)).setCell ⟨w.heap.size + 1 + 1, 2, none⟩ (.int .i64 g'.s.exp)).setCell ⟨w.heap.size + 1 + 1, 3, none⟩ (.int .i64 g'.opened)).setCell ⟨w.heap.size + 1 + 1, 4, none⟩ (.slice A2 g'.yes.length c2)).setCell ⟨w.heap.size + 1 + 1, 5, none⟩ (.int .i64 g'.state)) = w5 at *
    obtain ⟨⟨nz0, nz1, nz2, nz3, nz4, nz5⟩, far_w5, frz_w5, hsz_w5, bel_w5, own_w5⟩ := six_ok (.int .i64 g'.s.app) (.slice A1 g'.s.who.length c1) (.int .i64 g'.s.exp) (.int .i64 g'.opened) (.slice A2 g'.yes.length c2) (.int .i64 g'.state) z0 z1 z2 z3 z4 z5 w5 hw_w5
    clear z0 z1 z2 z3 z4 z5 hw_w5
    have z0 := nz0
    have z1 := nz1
    have z2 := nz2
    have z3 := nz3
    have z4 := nz4
    have z5 := nz5
    clear nz0 nz1 nz2 nz3 nz4 nz5
    replace d0 := (far_w5 ⟨w.heap.size, 0, none⟩ (by dsimp only; omega)).trans d0
    replace d1 := (far_w5 ⟨w.heap.size, 1, none⟩ (by dsimp only; omega)).trans d1
    replace d2 := (far_w5 ⟨w.heap.size, 2, none⟩ (by dsimp only; omega)).trans d2
    replace d3 := (far_w5 ⟨w.heap.size, 3, none⟩ (by dsimp only; omega)).trans d3
    replace d4 := (far_w5 ⟨w.heap.size, 4, none⟩ (by dsimp only; omega)).trans d4
    replace d5 := (far_w5 ⟨w.heap.size, 5, none⟩ (by dsimp only; omega)).trans d5
    replace dF := fun j => (frz_w5 ⟨w.heap.size, j, none⟩).trans (dF j)
    replace y0 := (far_w5 ⟨w.heap.size + 1, 0, none⟩ (by dsimp only; omega)).trans y0
    replace yF := fun j => (frz_w5 ⟨w.heap.size + 1, j, none⟩).trans (yF j)
    replace zF := fun j => (frz_w5 ⟨w.heap.size + 1 + 1, j, none⟩).trans (zF j)
    clear d0 d1 d2 d3 d4 d5 y0
    refine bodyPost_ret (v := .tuple #[.agg #[.int .i64 g'.s.app, .slice A1 g'.s.who.length c1, .int .i64 g'.s.exp, .int .i64 g'.opened, .slice A2 g'.yes.length c2, .int .i64 g'.state], .int .i64 (r)]) (by simp only [results, Tryd.results16]; go_simp; try (first | rfl | exact ⟨rfl, rfl, rfl, rfl, rfl, rfl⟩)) rfl ?_
    exact ⟨_, _, _, _, rfl, bel_w5 _ _ (by omega) hbw4, (SeqP.map hq4 (fun p hp => far_w5 p (by have := hp.1; omega)) fun _ h => h).lo (fun b hb => by have := hb.1; omega), (SeqP.map hq4' (fun p hp => far_w5 p (by have := hp.1; omega)) fun _ h => h).lo (fun b hb => by have := hb.1; omega)⟩
theorem approve_any (g : Gt) (A : Option Addr) (c : Nat) (A' : Option Addr) (c' : Nat) (who : ByteArray) (now : Int) (w : World) (hs : Seq w w.heap.size 1 A g.s.who.length (cellsS g.s.who)) (hs' : Seq w w.heap.size 1 A' g.yes.length (cellsS g.yes)) (hl : g.s.who.length ≤ 1000) (hl' : g.yes.length ≤ 1000) (hm : ∀ x ∈ g.yes, x.size ≤ 1000) (hwz : who.size ≤ 1000) (h1 : I64 g.opened) (h2 : I64 g.s.exp) : Calls Tryd.prog 16 #[.agg (garr g A c A' c'), .string who, .int .i64 now] w (GRet w (appG g who now) (appE g who now)) := (approveF_any g A c A' c' who now w hs hs' hl hl' hm (fun _ => hwz) h1 h2).mono fun _ _ h => h.ret
end Go.Proofs.YtionchkblgpklaaDoor
