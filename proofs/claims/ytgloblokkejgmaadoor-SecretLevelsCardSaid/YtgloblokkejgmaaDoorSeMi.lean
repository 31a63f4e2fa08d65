/- Secret: Missing; Visible and Missing of the document. -/
import Derived.Test.YtgloblokkejgmaaDoorSeVi
import Derived.Test.YtgloblokkejgmaaDoorHk
namespace Go.Proofs.YtgloblokkejgmaaDoor
open Go.RowKit
theorem refHasB_any (l : List ByteArray) (s : ByteArray) (A : Option Addr) (c B : Nat) (w : World) (hs : Seq w B 1 A l.length (cellsS l)) (hl : l.length ≤ 9223372036854775807) :
    Calls Tryd.prog 25 #[.slice A l.length c, .string s] w fun e w' => e = .returned (.bool (hasL l s)) ∧ Below w.heap.size w w' := by
  refine (refHas_any l s A c B w hs hl).mono ?_
  rintro e w1 ⟨rfl, rfl⟩
  exact ⟨rfl, Below.refl _ _⟩
theorem miss_take {v : List Sec} {names : List ByteArray} {i : Nat} {s : ByteArray} (hs : names[i]? = some s) : missL v (names.take (i + 1)) = missL v (names.take i) ++ if v.any (sameN s.data.toList) = true then [] else [s] := by
  unfold missL
  rw [List.take_add_one, hs, List.filter_append]
  congr 1
  simp only [Option.toList_some, List.filter_cons, List.filter_nil]
  have : (fun x : Sec => x.nm == s.data.toList) = sameN s.data.toList := rfl
  rw [this]
  cases v.any (sameN s.data.toList) <;> rfl
theorem posI_any {l : List Sec} {s : ByteArray} : decide (posI (sameN s.data.toList) l < 0) = !l.any (sameN s.data.toList) := by
  rw [← posI_nonneg]
  by_cases h : 0 ≤ posI (sameN s.data.toList) l
  · rw [decide_eq_true h, decide_eq_false (by omega)]; rfl
  · rw [decide_eq_false h, decide_eq_true (by omega)]; rfl
set_option maxRecDepth 100000 in
set_option maxHeartbeats 6000000 in
theorem missing_any (l : List Sec) (A : Option Addr) (n c : Nat) (o : Org) (t : Int) (env : ByteArray) (J : List Value) (names : List ByteArray) (AN : Option Addr) (cN : Nat) (w : World) (h : Secs w A n c l) (hJ : JobV J names AN cN env) (hN : StrsR w (fun b => b < w.heap.size) AN cN names) (hz : OrgW o) :
    Calls Tryd.prog 23 #[.slice A n c, .agg #[.string o.prj, .string o.ref, .bool o.fork], .int .i64 t, .agg J.toArray] w fun e w' => ∃ A' k c', e = .returned (.slice A' k c') ∧ (missL (visB names o t env l) names).length = k ∧ StrsR w' (fun b => b < w'.heap.size) A' c' (missL (visB names o t env l) names) ∧ Below w.heap.size w w' := by
  have hn := h.n
  have hl := h.len
  subst hn
  have hJn := hJ.nl
  obtain ⟨v, hv⟩ : ∃ v, v = visB names o t env l := ⟨_, rfl⟩
  rw [← hv]
  replace hv := Lib.hid hv
  go_enter Tryd.func23, Tryd.ntmps23
  go_upto_region 1 with (fail)
  have hJr := range_new (w.alloc (.cells #[.string o.prj, .string o.ref, .bool o.fork] 41)) J 57
  have hJz : (w.alloc (.cells #[.string o.prj, .string o.ref, .bool o.fork] 41)).heap.size = w.heap.size + 1 := by simp
  rw [hJz] at hJr
  clear hJz
  have hbz : Below w.heap.size w ((w.alloc (.cells #[.string o.prj, .string o.ref, .bool o.fork] 41)).alloc (.cells J.toArray 57)) := ((Below.refl _ _).alloc (Nat.le_refl _) _).alloc (by simp) _
  have hC0 := (CellsAt.new w #[.string o.prj, .string o.ref, .bool o.fork] 41).kept ((Below.refl _ _).alloc (Nat.le_refl _) (.cells J.toArray 57))
  have hsz : ((w.alloc (.cells #[.string o.prj, .string o.ref, .bool o.fork] 41)).alloc (.cells J.toArray 57)).heap.size = w.heap.size + 2 := by simp
  generalize hx_ : World.alloc (World.alloc w _) _ = w0 at hJr hbz hC0 hsz ⊢
  clear hx_
  have hO1 : OwnB w w0 [(w.heap.size, [.string o.prj, .string o.ref, .bool o.fork])] := (OwnB.of hbz).push (Nat.le_refl _) hC0 (fun i b x h => by simp at h)
  clear hC0
  have c0_0 : w0.cell? ⟨w.heap.size, 0, none⟩ = some (.string o.prj) := hO1.c 0 0
  have c0_1 : w0.cell? ⟨w.heap.size, 1, none⟩ = some (.string o.ref) := hO1.c 0 1
  have c0_2 : w0.cell? ⟨w.heap.size, 2, none⟩ = some (.bool o.fork) := hO1.c 0 2
  have cf0 := hO1.fr 0
  have hbw := hO1.below
  have C := visible_any l A l.length c o t env J names AN cN w0 (h.below hbw) hJ (hN.map (fun _ hp => hbw.cell hp) (fun b hb => Nat.lt_of_lt_of_le hb hbw.size)) hz
  rw [← hv.out] at C
  replace C := Lib.hid C
  repeat' ((fail_if_success at_builtin); (first | (refine wpList_load_mid rfl 57 _ rfl (w.heap.size + 1) 0 rfl J _ hJr Tryd.underlying57 rfl (job_info hJ) ?_) | go_skip | go_guarded | go_step))
  repeat' ((fail_if_success at_builtin); (first | go_skip | go_guarded | go_step))
  refine C.out.mono ?_
  clear C
  rintro e w1 ⟨VA, vk, vc, rfl, hvs, hb1⟩
  dsimp only
  clear hbw
  have zw1 := hb1.size
  have hO2 : OwnB w w1 [(w.heap.size, [.string o.prj, .string o.ref, .bool o.fork])] := hO1.kept hb1
  clear c0_0 c0_1 c0_2 cf0 hO1
  have c0_0 : w1.cell? ⟨w.heap.size, 0, none⟩ = some (.string o.prj) := hO2.c 0 0
  have c0_1 : w1.cell? ⟨w.heap.size, 1, none⟩ = some (.string o.ref) := hO2.c 0 1
  have c0_2 : w1.cell? ⟨w.heap.size, 2, none⟩ = some (.bool o.fork) := hO2.c 0 2
  have cf0 := hO2.fr 0
  have hbw := hO2.below
  have hJr1 := range_up hJr hb1 (by omega)
  have y28 := hJr1 28 _ hJ.c28
  rw [Nat.zero_add] at y28
  have hO0 := Own.nil_ w1 9 1
  clear hJr
  repeat' ((fail_if_success at_builtin); (first | go_skip | go_guarded | go_step))
  go_loopw [10, 21] (fun u10 u21 wr => ∃ (i : Nat) (m : List ByteArray) (A' : Option Addr) (k c' : Nat), i ≤ names.length ∧ u21 = .int .i64 (i : Int) ∧ m = missL v (names.take i) ∧ m.length = k ∧ u10 = .slice A' k c' ∧ Own w1 wr 9 1 (.slice A' k c') k (cellsS m)) (fun _ u21 _ => names.length - (intOf u21).toNat)
  case atStart => exact ⟨0, [], none, 0, 0, by omega, rfl, by simp [missL], rfl, rfl, hO0⟩
  case round =>
    clear hO0
    obtain ⟨i, m, A', k, c', hi, rfl, hm, hk, rfl, hR⟩ := hrel
    replace hk := Lib.hid hk
    have i0 : (0 : Int) ≤ (i : Int) := by omega
    have i2 : IntKind.i64.wrap ((i : Int) + 1) = (i : Int) + 1 := IntWalk.i64_in _ (by omega)
    have hbr := hR.2
    clear hbw y28
    have zwr := hbr.size
    have hO3 : OwnB w wr [(w.heap.size, [.string o.prj, .string o.ref, .bool o.fork])] := hO2.kept hbr
    clear c0_0 c0_1 c0_2 cf0 hO2
    have c0_0 : wr.cell? ⟨w.heap.size, 0, none⟩ = some (.string o.prj) := hO3.c 0 0
    have c0_1 : wr.cell? ⟨w.heap.size, 1, none⟩ = some (.string o.ref) := hO3.c 0 1
    have c0_2 : wr.cell? ⟨w.heap.size, 2, none⟩ = some (.bool o.fork) := hO3.c 0 2
    have cf0 := hO3.fr 0
    have hbw := hO3.below
    have hvr := hvs.below hbr
    have hJr2 := range_up hJr1 hbr (by omega)
    have y28 := hJr2 28 _ hJ.c28
    rw [Nat.zero_add] at y28
    by_cases hlt : i < names.length
    · have i1 : (i : Int) < (names.length : Int) := by omega
      obtain ⟨s, hs⟩ : ∃ s, names[i]? = some s := ⟨_, List.getElem?_eq_getElem (by omega)⟩
      obtain ⟨g, o', rfl, hg, hcs⟩ := hN.at_ hs
      have y0 := (hbw.cell (p := ⟨g, o' + i, none⟩) hg).trans hcs
      have hmt := miss_take (v := v) hs
      rw [← hm] at hmt
      replace hmt := Lib.hid hmt
      clear hs hcs
      go_upto_region 6 with (fail)
      generalize hx_ : World.alloc wr _ = wo4
      have hO4 : OwnB w wo4 [(wr.heap.size, [.string s]), (w.heap.size, [.string o.prj, .string o.ref, .bool o.fork])] := by rw [← hx_]; exact hO3.new #[.string s] _ (g := wr.heap.size)
      have hbn : Below wr.heap.size wr wo4 := by rw [← hx_]; exact (Below.refl _ _).alloc (Nat.le_refl _) _
      have zwo4 : wo4.heap.size = wr.heap.size + 1 := by rw [← hx_]; simp
      clear hx_ c0_0 c0_1 c0_2 cf0 hO3
      have c0_0 : wo4.cell? ⟨wr.heap.size, 0, none⟩ = some (.string s) := hO4.c 0 0
      have cf0 := hO4.fr 0
      have c1_0 : wo4.cell? ⟨w.heap.size, 0, none⟩ = some (.string o.prj) := hO4.c 1 0
      have c1_1 : wo4.cell? ⟨w.heap.size, 1, none⟩ = some (.string o.ref) := hO4.c 1 1
      have c1_2 : wo4.cell? ⟨w.heap.size, 2, none⟩ = some (.bool o.fork) := hO4.c 1 2
      have cf1 := hO4.fr 1
      have hRz := hR.below hbn
      have hvz := hvr.below hbn
      have C := cfS_any 49 wr.heap.size eg_miss1 (sameN s.data.toList) v VA vk vc wo4 hvz (fun y hy a1 d1 a2 d2 w' hw => miss1_any y a1 d1 a2 d2 s wr.heap.size w' ((hw.cell (p := ⟨wr.heap.size, 0, none⟩) (hO4.lt 0)).trans c0_0))
      clear y0 hbn hvz hJr2 hbw hR
      generalize v.any (sameN s.data.toList) = q at *
      replace C := Lib.hid C
      repeat' ((fail_if_success at_builtin); (first | go_skip | go_guarded | go_step))
      refine C.out.mono ?_
      clear C
      rintro e w3 ⟨rfl, hb3⟩
      dsimp only
      have hR3 := hRz.below hb3
      clear hRz
      have zw3 := hb3.size
      have hO5 : OwnB w w3 [(wr.heap.size, [.string s]), (w.heap.size, [.string o.prj, .string o.ref, .bool o.fork])] := hO4.kept hb3
      clear c0_0 cf0 c1_0 c1_1 c1_2 cf1 hO4
      have c0_0 : w3.cell? ⟨wr.heap.size, 0, none⟩ = some (.string s) := hO5.c 0 0
      have cf0 := hO5.fr 0
      have c1_0 : w3.cell? ⟨w.heap.size, 0, none⟩ = some (.string o.prj) := hO5.c 1 0
      have c1_1 : w3.cell? ⟨w.heap.size, 1, none⟩ = some (.string o.ref) := hO5.c 1 1
      have c1_2 : w3.cell? ⟨w.heap.size, 2, none⟩ = some (.bool o.fork) := hO5.c 1 2
      have cf1 := hO5.fr 1
      cases q with
      | true =>
        have hmt2 := hmt.out
        rw [if_pos rfl, List.append_nil] at hmt2
        clear hmt
        replace hmt2 := Lib.hid hmt2
        replace hR3 := Lib.hid hR3
        repeat' ((fail_if_success at_builtin); (first | go_skip | go_guarded | go_step))
        go_roundw
        case rel => exact ⟨i + 1, m, A', k, c', by omega, by first | rfl | go_num, hmt2.out.symm, hk.out, rfl, hR3.out⟩
        case measure => (try go_num); (try simp [intOf]); (try omega)
      | false =>
        have hmt2 := hmt.out
        rw [if_neg (by simp)] at hmt2
        have hml : m.length ≤ names.length := by rw [hm]; have := miss_len (v := v) (names := names.take i); rw [List.length_take] at this; omega
        rw [hk.out] at hml
        have hby : (k + 1) * 16 ≤ 140737488355328 := by omega
        clear hmt
        replace hmt2 := Lib.hid hmt2
        repeat' ((fail_if_success at_builtin); (first | go_skip | go_guarded | go_step))
        refine wp_app1 (cs := #[.string s]) hR3 Tryd.underlying22 str_infoS hby ?_
        intro v5 w5 hR5 _
        obtain ⟨A5, c5, rfl⟩ := hR5.slice_form
        have hl5 : (m ++ [s]).length = k + 1 := by rw [List.length_append, hk.out]; rfl
        have hce : cellsS m ++ (#[Value.string s] : Array Value).toList = cellsS (m ++ [s]) := by simp [cellsS]
        rw [hce] at hR5
        clear hR3 hce
        replace hR5 := Lib.hid hR5
        replace hl5 := Lib.hid hl5
        repeat' ((fail_if_success at_builtin); (first | go_skip | go_guarded | go_step))
        go_roundw
        case rel => exact ⟨i + 1, m ++ [s], A5, k + 1, c5, by omega, by first | rfl | go_num, hmt2.out.symm, hl5.out, rfl, hR5.out⟩
        case measure => (try go_num); (try simp [intOf]); (try omega)
    · have i1 : ¬ (i : Int) < (names.length : Int) := by omega
      rw [List.take_of_length_le (by omega)] at hm
      have hfin : StrsR wr (fun b => b < wr.heap.size) A' c' m := by
        have := hk.out
        subst this
        exact (StrsR.own hR).imp (fun b hb => hb.2)
      rw [hm] at hfin
      have hke := hk.out
      rw [hm] at hke
      clear hR
      replace hfin := Lib.hid hfin
      replace hke := Lib.hid hke
      repeat' ((fail_if_success at_builtin); (first | go_skip | go_guarded | go_step))
      go_ret
      exact ⟨A', k, c', rfl, hke.out, hfin.out, hbw⟩
set_option maxRecDepth 100000 in
set_option maxHeartbeats 6000000 in
theorem refVisible_any (l : List Sec) (A : Option Addr) (n c : Nat) (o : Org) (t : Int) (env : ByteArray) (J : List Value) (names : List ByteArray) (AN : Option Addr) (cN : Nat) (w : World) (h : Secs w A n c l) (hJ : JobV J names AN cN env) (hN : StrsR w (fun b => b < w.heap.size) AN cN names) (hz : OrgW o) :
    Calls Tryd.prog 21 #[.slice A n c, .agg #[.string o.prj, .string o.ref, .bool o.fork], .int .i64 t, .agg J.toArray] w fun e w' => ∃ A' k c', e = .returned (.slice A' k c') ∧ Secs w' A' k c' (visB names o t env l) ∧ Below w.heap.size w w' := by
  have hn := h.n
  have hl := h.len
  subst hn
  have hJn := hJ.nl
  go_enter Tryd.func21, Tryd.ntmps21
  go_upto_region 2 with (fail)
  have hJr := range_new (w.alloc (.cells #[.string o.prj, .string o.ref, .bool o.fork] 41)) J 57
  have hJz : (w.alloc (.cells #[.string o.prj, .string o.ref, .bool o.fork] 41)).heap.size = w.heap.size + 1 := by simp
  rw [hJz] at hJr
  clear hJz
  have hbz : Below w.heap.size w ((w.alloc (.cells #[.string o.prj, .string o.ref, .bool o.fork] 41)).alloc (.cells J.toArray 57)) := ((Below.refl _ _).alloc (Nat.le_refl _) _).alloc (by simp) _
  have hC0 := (CellsAt.new w #[.string o.prj, .string o.ref, .bool o.fork] 41).kept ((Below.refl _ _).alloc (Nat.le_refl _) (.cells J.toArray 57))
  have hsz : ((w.alloc (.cells #[.string o.prj, .string o.ref, .bool o.fork] 41)).alloc (.cells J.toArray 57)).heap.size = w.heap.size + 2 := by simp
  generalize hx_ : World.alloc (World.alloc w _) _ = w0 at hJr hbz hC0 hsz ⊢
  clear hx_
  have hO1 : OwnB w w0 [(w.heap.size, [.string o.prj, .string o.ref, .bool o.fork])] := (OwnB.of hbz).push (Nat.le_refl _) hC0 (fun i b x h => by simp at h)
  clear hC0
  have c0_0 : w0.cell? ⟨w.heap.size, 0, none⟩ = some (.string o.prj) := hO1.c 0 0
  have c0_1 : w0.cell? ⟨w.heap.size, 1, none⟩ = some (.string o.ref) := hO1.c 0 1
  have c0_2 : w0.cell? ⟨w.heap.size, 2, none⟩ = some (.bool o.fork) := hO1.c 0 2
  have cf0 := hO1.fr 0
  have hR0 := OwnR.nil (r := rSec) (sz := 5) w0 secT
  repeat' ((fail_if_success at_builtin); (first | go_skip | go_guarded | go_step))
  go_loopw [9, 10] (fun u9 u14 wr => ∃ (i : Nat) (m : List Sec) (A' : Option Addr) (k c' : Nat), i ≤ l.length ∧ u14 = .int .i64 (i : Int) ∧ m = visB names o t env (l.take i) ∧ m.length = k ∧ u9 = .slice A' k c' ∧ OwnR rSec 5 w0 wr secT (.slice A' k c') m) (fun _ u14 _ => l.length - (intOf u14).toNat)
  case atStart => exact ⟨0, [], none, 0, 0, by omega, rfl, by simp [visB, visL], rfl, rfl, hR0⟩
  case round =>
    clear hR0
    obtain ⟨i, m, A', k, c', hi, rfl, hm, hk, rfl, hR⟩ := hrel
    replace hk := Lib.hid hk
    have i0 : (0 : Int) ≤ (i : Int) := by omega
    have i2 : IntKind.i64.wrap ((i : Int) + 1) = (i : Int) + 1 := IntWalk.i64_in _ (by omega)
    have hbr := hR.bel
    have zwr := hbr.size
    have hO2 : OwnB w wr [(w.heap.size, [.string o.prj, .string o.ref, .bool o.fork])] := hO1.kept hbr
    clear c0_0 c0_1 c0_2 cf0 hO1
    have c0_0 : wr.cell? ⟨w.heap.size, 0, none⟩ = some (.string o.prj) := hO2.c 0 0
    have c0_1 : wr.cell? ⟨w.heap.size, 1, none⟩ = some (.string o.ref) := hO2.c 0 1
    have c0_2 : wr.cell? ⟨w.heap.size, 2, none⟩ = some (.bool o.fork) := hO2.c 0 2
    have cf0 := hO2.fr 0
    have hbw := hO2.below
    have hJr1 := range_up2 hJr hbr (by omega)
    by_cases hlt : i < l.length
    · have i1 : (i : Int) < (l.length : Int) := by omega
      obtain ⟨x, hx⟩ : ∃ x, l[i]? = some x := ⟨_, List.getElem?_eq_getElem (by omega)⟩
      have hxm := h.each x (List.mem_of_getElem? hx)
      obtain ⟨g, o', A1, c1, A2, c2, rfl, hg, hS⟩ := sec_at h.rd hx
      have hS2 := hS.below hg hbw
      have hvt := vis_take (names := names) (o := o) (t := t) (env := env) hx
      rw [← hm] at hvt
      replace hvt := Lib.hid hvt
      have y28 := hJr1 28 _ hJ.c28
      have y29 := hJr1 29 _ hJ.c29
      rw [Nat.zero_add] at y28 y29
      have hgl : g < wr.heap.size := Nat.lt_of_lt_of_le hg hbw.size
      have hkp : keepS names o t env x = (hasL names x.name && mayS anyB x o t env) := rfl
      replace hkp := Lib.hid hkp
      clear hx
      cases hh : hasL names x.name with
      | false =>
        have hv := hkp.out
        rw [hh, Bool.false_and] at hv
        have hvt2 := hvt.out
        rw [hv, if_neg (by simp), List.append_nil] at hvt2
        clear hv hkp hvt
        replace hvt2 := Lib.hid hvt2
        have hS0 : (Below wr.heap.size wr wr ∧ wr.cell? ⟨w.heap.size, 0, none⟩ = some (.string o.prj) ∧ wr.cell? ⟨w.heap.size, 1, none⟩ = some (.string o.ref) ∧ wr.cell? ⟨w.heap.size, 2, none⟩ = some (.bool o.fork) ∧ wr.cell? ⟨(w.heap.size + 1), 28, none⟩ = some (.slice AN names.length cN) ∧ wr.cell? ⟨(w.heap.size + 1), 29, none⟩ = some (.string env) ∧ wr.cell? ⟨g, o' + i * 5, none⟩ = some (.string x.name) ∧ wr.cell? ⟨g, o' + i * 5 + 1, none⟩ = some (.string x.text) ∧ wr.cell? ⟨g, o' + i * 5 + 2, none⟩ = some (.int .i64 x.level) ∧ wr.cell? ⟨g, o' + i * 5 + 3, none⟩ = some (.slice A1 x.refs.length c1) ∧ wr.cell? ⟨g, o' + i * 5 + 4, none⟩ = some (.slice A2 x.envs.length c2)) := ⟨Below.refl _ _, c0_0, c0_1, c0_2, y28, y29, hS2.e0, hS2.e1, hS2.e2, hS2.e3, hS2.e4⟩
        have keepS : ∀ v1 v2 : World, (Below wr.heap.size wr v1 ∧ v1.cell? ⟨w.heap.size, 0, none⟩ = some (.string o.prj) ∧ v1.cell? ⟨w.heap.size, 1, none⟩ = some (.string o.ref) ∧ v1.cell? ⟨w.heap.size, 2, none⟩ = some (.bool o.fork) ∧ v1.cell? ⟨(w.heap.size + 1), 28, none⟩ = some (.slice AN names.length cN) ∧ v1.cell? ⟨(w.heap.size + 1), 29, none⟩ = some (.string env) ∧ v1.cell? ⟨g, o' + i * 5, none⟩ = some (.string x.name) ∧ v1.cell? ⟨g, o' + i * 5 + 1, none⟩ = some (.string x.text) ∧ v1.cell? ⟨g, o' + i * 5 + 2, none⟩ = some (.int .i64 x.level) ∧ v1.cell? ⟨g, o' + i * 5 + 3, none⟩ = some (.slice A1 x.refs.length c1) ∧ v1.cell? ⟨g, o' + i * 5 + 4, none⟩ = some (.slice A2 x.envs.length c2)) → Below v1.heap.size v1 v2 → (Below wr.heap.size wr v2 ∧ v2.cell? ⟨w.heap.size, 0, none⟩ = some (.string o.prj) ∧ v2.cell? ⟨w.heap.size, 1, none⟩ = some (.string o.ref) ∧ v2.cell? ⟨w.heap.size, 2, none⟩ = some (.bool o.fork) ∧ v2.cell? ⟨(w.heap.size + 1), 28, none⟩ = some (.slice AN names.length cN) ∧ v2.cell? ⟨(w.heap.size + 1), 29, none⟩ = some (.string env) ∧ v2.cell? ⟨g, o' + i * 5, none⟩ = some (.string x.name) ∧ v2.cell? ⟨g, o' + i * 5 + 1, none⟩ = some (.string x.text) ∧ v2.cell? ⟨g, o' + i * 5 + 2, none⟩ = some (.int .i64 x.level) ∧ v2.cell? ⟨g, o' + i * 5 + 3, none⟩ = some (.slice A1 x.refs.length c1) ∧ v2.cell? ⟨g, o' + i * 5 + 4, none⟩ = some (.slice A2 x.envs.length c2)) := fun v1 v2 h hb => ⟨h.1.trans (hb.mono h.1.size), (hb.cell (p := ⟨w.heap.size, _, none⟩) (Nat.lt_of_lt_of_le (hO2.lt 0) h.1.size)).trans h.2.1, (hb.cell (p := ⟨w.heap.size, _, none⟩) (Nat.lt_of_lt_of_le (hO2.lt 0) h.1.size)).trans h.2.2.1, (hb.cell (p := ⟨w.heap.size, _, none⟩) (Nat.lt_of_lt_of_le (hO2.lt 0) h.1.size)).trans h.2.2.2.1, (hb.cell (p := ⟨(w.heap.size + 1), _, none⟩) (Nat.lt_of_lt_of_le (show w.heap.size + 1 < wr.heap.size by omega) h.1.size)).trans h.2.2.2.2.1, (hb.cell (p := ⟨(w.heap.size + 1), _, none⟩) (Nat.lt_of_lt_of_le (show w.heap.size + 1 < wr.heap.size by omega) h.1.size)).trans h.2.2.2.2.2.1, (hb.cell (p := ⟨g, _, none⟩) (Nat.lt_of_lt_of_le hgl h.1.size)).trans h.2.2.2.2.2.2.1, (hb.cell (p := ⟨g, _, none⟩) (Nat.lt_of_lt_of_le hgl h.1.size)).trans h.2.2.2.2.2.2.2.1, (hb.cell (p := ⟨g, _, none⟩) (Nat.lt_of_lt_of_le hgl h.1.size)).trans h.2.2.2.2.2.2.2.2.1, (hb.cell (p := ⟨g, _, none⟩) (Nat.lt_of_lt_of_le hgl h.1.size)).trans h.2.2.2.2.2.2.2.2.2.1, (hb.cell (p := ⟨g, _, none⟩) (Nat.lt_of_lt_of_le hgl h.1.size)).trans h.2.2.2.2.2.2.2.2.2.2⟩
        have hS1 : (Below wr.heap.size wr wr.drew ∧ wr.drew.cell? ⟨w.heap.size, 0, none⟩ = some (.string o.prj) ∧ wr.drew.cell? ⟨w.heap.size, 1, none⟩ = some (.string o.ref) ∧ wr.drew.cell? ⟨w.heap.size, 2, none⟩ = some (.bool o.fork) ∧ wr.drew.cell? ⟨(w.heap.size + 1), 28, none⟩ = some (.slice AN names.length cN) ∧ wr.drew.cell? ⟨(w.heap.size + 1), 29, none⟩ = some (.string env) ∧ wr.drew.cell? ⟨g, o' + i * 5, none⟩ = some (.string x.name) ∧ wr.drew.cell? ⟨g, o' + i * 5 + 1, none⟩ = some (.string x.text) ∧ wr.drew.cell? ⟨g, o' + i * 5 + 2, none⟩ = some (.int .i64 x.level) ∧ wr.drew.cell? ⟨g, o' + i * 5 + 3, none⟩ = some (.slice A1 x.refs.length c1) ∧ wr.drew.cell? ⟨g, o' + i * 5 + 4, none⟩ = some (.slice A2 x.envs.length c2)) := keepS _ _ hS0 ((Below.refl _ _).drew)
        replace keepS := Lib.hid keepS
        clear hS0
        go_upto_region 5 with (fail)
        refine wp_region_held_drew (S := fun w' => Below wr.heap.size wr w' ∧ w'.cell? ⟨w.heap.size, 0, none⟩ = some (.string o.prj) ∧ w'.cell? ⟨w.heap.size, 1, none⟩ = some (.string o.ref) ∧ w'.cell? ⟨w.heap.size, 2, none⟩ = some (.bool o.fork) ∧ w'.cell? ⟨(w.heap.size + 1), 28, none⟩ = some (.slice AN names.length cN) ∧ w'.cell? ⟨(w.heap.size + 1), 29, none⟩ = some (.string env) ∧ w'.cell? ⟨g, o' + i * 5, none⟩ = some (.string x.name) ∧ w'.cell? ⟨g, o' + i * 5 + 1, none⟩ = some (.string x.text) ∧ w'.cell? ⟨g, o' + i * 5 + 2, none⟩ = some (.int .i64 x.level) ∧ w'.cell? ⟨g, o' + i * 5 + 3, none⟩ = some (.slice A1 x.refs.length c1) ∧ w'.cell? ⟨g, o' + i * 5 + 4, none⟩ = some (.slice A2 x.envs.length c2)) (by kernel_rfl) ?_ (fun hHeld => ?_)
        · (try dsimp only)
          exact hS1
        refine tkY 0 (v := ?v42) rfl (.inl ⟨by rfl, ?hy42⟩) ?hr42
        case hy42 => (intro w hSw; (try dsimp only at hSw); go_simp; try with_reducible rfl)
        simp only [Act.put, List.getElem_toArray, List.getElem_cons_zero, List.setIfInBounds_toArray, List.set_cons_zero, List.set_cons_succ]
        refine tkY 1 (v := ?v43) rfl (.inl ⟨by rfl, ?hy43⟩) ?hr43
        case hy43 => (intro w hSw; (try dsimp only at hSw); go_simp; try with_reducible rfl)
        simp only [Act.put, List.getElem_toArray, List.getElem_cons_zero, List.getElem_cons_succ, List.setIfInBounds_toArray, List.set_cons_zero, List.set_cons_succ]
        refine tkY 2 (v := ?v44) rfl (.inl ⟨by rfl, ?hy44⟩) ?hr44
        case hy44 => (intro w hSw; (try dsimp only at hSw); go_simp; try with_reducible rfl)
        simp only [Act.put, List.getElem_toArray, List.getElem_cons_zero, List.getElem_cons_succ, List.setIfInBounds_toArray, List.set_cons_zero, List.set_cons_succ]
        refine tkY 3 (v := ?v45) rfl (.inl ⟨by rfl, ?hy45⟩) ?hr45
        case hy45 => (intro w hSw; (try dsimp only at hSw); go_simp; try with_reducible rfl)
        simp only [Act.put, List.getElem_toArray, List.getElem_cons_zero, List.getElem_cons_succ, List.setIfInBounds_toArray, List.set_cons_zero, List.set_cons_succ]
        refine tkY 4 (v := ?v46) rfl (.inl ⟨by rfl, ?hy46⟩) ?hr46
        case hy46 => (intro w hSw; (try dsimp only at hSw); go_simp; try with_reducible rfl)
        simp only [Act.put, List.getElem_toArray, List.getElem_cons_zero, List.getElem_cons_succ, List.setIfInBounds_toArray, List.set_cons_zero, List.set_cons_succ]
        refine tkY 5 (v := ?v47) rfl (.inl ⟨by rfl, ?hy47⟩) ?hr47
        case hy47 => (intro w hSw; (try dsimp only at hSw); go_simp; try with_reducible rfl)
        simp only [Act.put, List.getElem_toArray, List.getElem_cons_zero, List.getElem_cons_succ, List.setIfInBounds_toArray, List.set_cons_zero, List.set_cons_succ]
        refine tkY 6 (v := ?v48) rfl (.inl ⟨by rfl, ?hy48⟩) ?hr48
        case hy48 => (intro w hSw; (try dsimp only at hSw); go_simp; try with_reducible rfl)
        simp only [Act.put, List.getElem_toArray, List.getElem_cons_zero, List.getElem_cons_succ, List.setIfInBounds_toArray, List.set_cons_zero, List.set_cons_succ]
        refine wpAnyH_ready (rs := [7]) (by kernel_rfl) (by simp) ?_
        refine AllReadyH.cons rfl (fun K hK => ?_) AllReadyH.nil
        go_simp
        go_at_call 25
        refine (refHasB_any names x.name AN cN w.heap.size _ (Seq.below hN.seq (hbw.trans (hHeld.1.mono hbw.size))) (by omega)).mono ?_
        rintro e r7 ⟨rfl, hbq⟩
        dsimp only
        rw [hh]
        refine hK.out _ _ ?_ (fun hHeld => ?_)
        · (try dsimp only)
          exact keepS.out _ _ hHeld hbq
        clear hK K
        try simp only [Act.put, List.getElem_toArray, List.getElem_cons_zero, List.getElem_cons_succ, List.setIfInBounds_toArray, List.set_cons_zero, List.set_cons_succ]
        refine tkY 8 (v := ?v49) rfl (.inl ⟨by rfl, ?hy49⟩) ?hr49
        case hy49 => (intro w hSw; (try dsimp only at hSw); go_simp; try with_reducible rfl)
        simp only [Act.put, List.getElem_toArray, List.getElem_cons_zero, List.getElem_cons_succ, List.setIfInBounds_toArray, List.set_cons_zero, List.set_cons_succ]
        refine tkN 9 rfl ?_
        simp only [Act.put, List.getElem_toArray, List.getElem_cons_zero, List.getElem_cons_succ, List.setIfInBounds_toArray, List.set_cons_zero, List.set_cons_succ]
        refine tkN 10 rfl ?_
        simp only [Act.put, List.getElem_toArray, List.getElem_cons_zero, List.getElem_cons_succ, List.setIfInBounds_toArray, List.set_cons_zero, List.set_cons_succ]
        refine tkN 11 rfl ?_
        simp only [Act.put, List.getElem_toArray, List.getElem_cons_zero, List.getElem_cons_succ, List.setIfInBounds_toArray, List.set_cons_zero, List.set_cons_succ]
        refine tkN 12 rfl ?_
        simp only [Act.put, List.getElem_toArray, List.getElem_cons_zero, List.getElem_cons_succ, List.setIfInBounds_toArray, List.set_cons_zero, List.set_cons_succ]
        refine tkN 13 rfl ?_
        simp only [Act.put, List.getElem_toArray, List.getElem_cons_zero, List.getElem_cons_succ, List.setIfInBounds_toArray, List.set_cons_zero, List.set_cons_succ]
        refine tkN 14 rfl ?_
        simp only [Act.put, List.getElem_toArray, List.getElem_cons_zero, List.getElem_cons_succ, List.setIfInBounds_toArray, List.set_cons_zero, List.set_cons_succ]
        refine tkN 15 rfl ?_
        simp only [Act.put, List.getElem_toArray, List.getElem_cons_zero, List.getElem_cons_succ, List.setIfInBounds_toArray, List.set_cons_zero, List.set_cons_succ]
        refine tkN 16 rfl ?_
        simp only [Act.put, List.getElem_toArray, List.getElem_cons_zero, List.getElem_cons_succ, List.setIfInBounds_toArray, List.set_cons_zero, List.set_cons_succ]
        refine tkN 17 rfl ?_
        simp only [Act.put, List.getElem_toArray, List.getElem_cons_zero, List.getElem_cons_succ, List.setIfInBounds_toArray, List.set_cons_zero, List.set_cons_succ]
        refine tkY 18 (v := ?v50) rfl (.inl ⟨by rfl, ?hy50⟩) ?hr50
        case hy50 => (intro w hSw; (try dsimp only at hSw); go_simp; try with_reducible rfl)
        simp only [Act.put, List.getElem_toArray, List.getElem_cons_zero, List.getElem_cons_succ, List.setIfInBounds_toArray, List.set_cons_zero, List.set_cons_succ]
        refine wpAnyH_done (by kernel_rfl) ?_ _
        have hbW := hHeld.1
        clear hHeld hS1 keepS
        have hR3 := hR.below rSec_ok hbW
        clear hR
        replace hR3 := Lib.hid hR3
        repeat' ((fail_if_success at_builtin); (first | go_skip | go_guarded | go_step))
        go_roundw
        case rel => exact ⟨i + 1, m, A', k, c', by omega, by first | rfl | go_num, hvt2.out.symm, hk.out, rfl, hR3.out⟩
        case measure => (try go_num); (try simp [intOf]); (try omega)
      | true =>
        have hv := hkp.out
        rw [hh, Bool.true_and] at hv
        replace hvt := hvt.out
        rw [hv] at hvt
        replace hvt := Lib.hid hvt
        clear hv hkp
        have hS0 : (Below wr.heap.size wr wr ∧ wr.cell? ⟨w.heap.size, 0, none⟩ = some (.string o.prj) ∧ wr.cell? ⟨w.heap.size, 1, none⟩ = some (.string o.ref) ∧ wr.cell? ⟨w.heap.size, 2, none⟩ = some (.bool o.fork) ∧ wr.cell? ⟨(w.heap.size + 1), 28, none⟩ = some (.slice AN names.length cN) ∧ wr.cell? ⟨(w.heap.size + 1), 29, none⟩ = some (.string env) ∧ wr.cell? ⟨g, o' + i * 5, none⟩ = some (.string x.name) ∧ wr.cell? ⟨g, o' + i * 5 + 1, none⟩ = some (.string x.text) ∧ wr.cell? ⟨g, o' + i * 5 + 2, none⟩ = some (.int .i64 x.level) ∧ wr.cell? ⟨g, o' + i * 5 + 3, none⟩ = some (.slice A1 x.refs.length c1) ∧ wr.cell? ⟨g, o' + i * 5 + 4, none⟩ = some (.slice A2 x.envs.length c2)) := ⟨Below.refl _ _, c0_0, c0_1, c0_2, y28, y29, hS2.e0, hS2.e1, hS2.e2, hS2.e3, hS2.e4⟩
        have keepS : ∀ v1 v2 : World, (Below wr.heap.size wr v1 ∧ v1.cell? ⟨w.heap.size, 0, none⟩ = some (.string o.prj) ∧ v1.cell? ⟨w.heap.size, 1, none⟩ = some (.string o.ref) ∧ v1.cell? ⟨w.heap.size, 2, none⟩ = some (.bool o.fork) ∧ v1.cell? ⟨(w.heap.size + 1), 28, none⟩ = some (.slice AN names.length cN) ∧ v1.cell? ⟨(w.heap.size + 1), 29, none⟩ = some (.string env) ∧ v1.cell? ⟨g, o' + i * 5, none⟩ = some (.string x.name) ∧ v1.cell? ⟨g, o' + i * 5 + 1, none⟩ = some (.string x.text) ∧ v1.cell? ⟨g, o' + i * 5 + 2, none⟩ = some (.int .i64 x.level) ∧ v1.cell? ⟨g, o' + i * 5 + 3, none⟩ = some (.slice A1 x.refs.length c1) ∧ v1.cell? ⟨g, o' + i * 5 + 4, none⟩ = some (.slice A2 x.envs.length c2)) → Below v1.heap.size v1 v2 → (Below wr.heap.size wr v2 ∧ v2.cell? ⟨w.heap.size, 0, none⟩ = some (.string o.prj) ∧ v2.cell? ⟨w.heap.size, 1, none⟩ = some (.string o.ref) ∧ v2.cell? ⟨w.heap.size, 2, none⟩ = some (.bool o.fork) ∧ v2.cell? ⟨(w.heap.size + 1), 28, none⟩ = some (.slice AN names.length cN) ∧ v2.cell? ⟨(w.heap.size + 1), 29, none⟩ = some (.string env) ∧ v2.cell? ⟨g, o' + i * 5, none⟩ = some (.string x.name) ∧ v2.cell? ⟨g, o' + i * 5 + 1, none⟩ = some (.string x.text) ∧ v2.cell? ⟨g, o' + i * 5 + 2, none⟩ = some (.int .i64 x.level) ∧ v2.cell? ⟨g, o' + i * 5 + 3, none⟩ = some (.slice A1 x.refs.length c1) ∧ v2.cell? ⟨g, o' + i * 5 + 4, none⟩ = some (.slice A2 x.envs.length c2)) := fun v1 v2 h hb => ⟨h.1.trans (hb.mono h.1.size), (hb.cell (p := ⟨w.heap.size, _, none⟩) (Nat.lt_of_lt_of_le (hO2.lt 0) h.1.size)).trans h.2.1, (hb.cell (p := ⟨w.heap.size, _, none⟩) (Nat.lt_of_lt_of_le (hO2.lt 0) h.1.size)).trans h.2.2.1, (hb.cell (p := ⟨w.heap.size, _, none⟩) (Nat.lt_of_lt_of_le (hO2.lt 0) h.1.size)).trans h.2.2.2.1, (hb.cell (p := ⟨(w.heap.size + 1), _, none⟩) (Nat.lt_of_lt_of_le (show w.heap.size + 1 < wr.heap.size by omega) h.1.size)).trans h.2.2.2.2.1, (hb.cell (p := ⟨(w.heap.size + 1), _, none⟩) (Nat.lt_of_lt_of_le (show w.heap.size + 1 < wr.heap.size by omega) h.1.size)).trans h.2.2.2.2.2.1, (hb.cell (p := ⟨g, _, none⟩) (Nat.lt_of_lt_of_le hgl h.1.size)).trans h.2.2.2.2.2.2.1, (hb.cell (p := ⟨g, _, none⟩) (Nat.lt_of_lt_of_le hgl h.1.size)).trans h.2.2.2.2.2.2.2.1, (hb.cell (p := ⟨g, _, none⟩) (Nat.lt_of_lt_of_le hgl h.1.size)).trans h.2.2.2.2.2.2.2.2.1, (hb.cell (p := ⟨g, _, none⟩) (Nat.lt_of_lt_of_le hgl h.1.size)).trans h.2.2.2.2.2.2.2.2.2.1, (hb.cell (p := ⟨g, _, none⟩) (Nat.lt_of_lt_of_le hgl h.1.size)).trans h.2.2.2.2.2.2.2.2.2.2⟩
        have hS1 : (Below wr.heap.size wr wr.drew ∧ wr.drew.cell? ⟨w.heap.size, 0, none⟩ = some (.string o.prj) ∧ wr.drew.cell? ⟨w.heap.size, 1, none⟩ = some (.string o.ref) ∧ wr.drew.cell? ⟨w.heap.size, 2, none⟩ = some (.bool o.fork) ∧ wr.drew.cell? ⟨(w.heap.size + 1), 28, none⟩ = some (.slice AN names.length cN) ∧ wr.drew.cell? ⟨(w.heap.size + 1), 29, none⟩ = some (.string env) ∧ wr.drew.cell? ⟨g, o' + i * 5, none⟩ = some (.string x.name) ∧ wr.drew.cell? ⟨g, o' + i * 5 + 1, none⟩ = some (.string x.text) ∧ wr.drew.cell? ⟨g, o' + i * 5 + 2, none⟩ = some (.int .i64 x.level) ∧ wr.drew.cell? ⟨g, o' + i * 5 + 3, none⟩ = some (.slice A1 x.refs.length c1) ∧ wr.drew.cell? ⟨g, o' + i * 5 + 4, none⟩ = some (.slice A2 x.envs.length c2)) := keepS _ _ hS0 ((Below.refl _ _).drew)
        replace keepS := Lib.hid keepS
        clear hS0
        go_upto_region 5 with (fail)
        refine wp_region_held_drew (S := fun w' => Below wr.heap.size wr w' ∧ w'.cell? ⟨w.heap.size, 0, none⟩ = some (.string o.prj) ∧ w'.cell? ⟨w.heap.size, 1, none⟩ = some (.string o.ref) ∧ w'.cell? ⟨w.heap.size, 2, none⟩ = some (.bool o.fork) ∧ w'.cell? ⟨(w.heap.size + 1), 28, none⟩ = some (.slice AN names.length cN) ∧ w'.cell? ⟨(w.heap.size + 1), 29, none⟩ = some (.string env) ∧ w'.cell? ⟨g, o' + i * 5, none⟩ = some (.string x.name) ∧ w'.cell? ⟨g, o' + i * 5 + 1, none⟩ = some (.string x.text) ∧ w'.cell? ⟨g, o' + i * 5 + 2, none⟩ = some (.int .i64 x.level) ∧ w'.cell? ⟨g, o' + i * 5 + 3, none⟩ = some (.slice A1 x.refs.length c1) ∧ w'.cell? ⟨g, o' + i * 5 + 4, none⟩ = some (.slice A2 x.envs.length c2)) (by kernel_rfl) ?_ (fun hHeld => ?_)
        · (try dsimp only)
          exact hS1
        refine tkY 0 (v := ?v51) rfl (.inl ⟨by rfl, ?hy51⟩) ?hr51
        case hy51 => (intro w hSw; (try dsimp only at hSw); go_simp; try with_reducible rfl)
        simp only [Act.put, List.getElem_toArray, List.getElem_cons_zero, List.setIfInBounds_toArray, List.set_cons_zero, List.set_cons_succ]
        refine tkY 1 (v := ?v52) rfl (.inl ⟨by rfl, ?hy52⟩) ?hr52
        case hy52 => (intro w hSw; (try dsimp only at hSw); go_simp; try with_reducible rfl)
        simp only [Act.put, List.getElem_toArray, List.getElem_cons_zero, List.getElem_cons_succ, List.setIfInBounds_toArray, List.set_cons_zero, List.set_cons_succ]
        refine tkY 2 (v := ?v53) rfl (.inl ⟨by rfl, ?hy53⟩) ?hr53
        case hy53 => (intro w hSw; (try dsimp only at hSw); go_simp; try with_reducible rfl)
        simp only [Act.put, List.getElem_toArray, List.getElem_cons_zero, List.getElem_cons_succ, List.setIfInBounds_toArray, List.set_cons_zero, List.set_cons_succ]
        refine tkY 3 (v := ?v54) rfl (.inl ⟨by rfl, ?hy54⟩) ?hr54
        case hy54 => (intro w hSw; (try dsimp only at hSw); go_simp; try with_reducible rfl)
        simp only [Act.put, List.getElem_toArray, List.getElem_cons_zero, List.getElem_cons_succ, List.setIfInBounds_toArray, List.set_cons_zero, List.set_cons_succ]
        refine tkY 4 (v := ?v55) rfl (.inl ⟨by rfl, ?hy55⟩) ?hr55
        case hy55 => (intro w hSw; (try dsimp only at hSw); go_simp; try with_reducible rfl)
        simp only [Act.put, List.getElem_toArray, List.getElem_cons_zero, List.getElem_cons_succ, List.setIfInBounds_toArray, List.set_cons_zero, List.set_cons_succ]
        refine tkY 5 (v := ?v56) rfl (.inl ⟨by rfl, ?hy56⟩) ?hr56
        case hy56 => (intro w hSw; (try dsimp only at hSw); go_simp; try with_reducible rfl)
        simp only [Act.put, List.getElem_toArray, List.getElem_cons_zero, List.getElem_cons_succ, List.setIfInBounds_toArray, List.set_cons_zero, List.set_cons_succ]
        refine tkY 6 (v := ?v57) rfl (.inl ⟨by rfl, ?hy57⟩) ?hr57
        case hy57 => (intro w hSw; (try dsimp only at hSw); go_simp; try with_reducible rfl)
        simp only [Act.put, List.getElem_toArray, List.getElem_cons_zero, List.getElem_cons_succ, List.setIfInBounds_toArray, List.set_cons_zero, List.set_cons_succ]
        refine wpAnyH_ready (rs := [7]) (by kernel_rfl) (by simp) ?_
        refine AllReadyH.cons rfl (fun K hK => ?_) AllReadyH.nil
        go_simp
        go_at_call 25
        refine (refHasB_any names x.name AN cN w.heap.size _ (Seq.below hN.seq (hbw.trans (hHeld.1.mono hbw.size))) (by omega)).mono ?_
        rintro e r7 ⟨rfl, hbq⟩
        dsimp only
        rw [hh]
        refine hK.out _ _ ?_ (fun hHeld => ?_)
        · (try dsimp only)
          exact keepS.out _ _ hHeld hbq
        clear hK K
        try simp only [Act.put, List.getElem_toArray, List.getElem_cons_zero, List.getElem_cons_succ, List.setIfInBounds_toArray, List.set_cons_zero, List.set_cons_succ]
        refine tkY 8 (v := ?v58) rfl (.inl ⟨by rfl, ?hy58⟩) ?hr58
        case hy58 => (intro w hSw; (try dsimp only at hSw); go_simp; try with_reducible rfl)
        simp only [Act.put, List.getElem_toArray, List.getElem_cons_zero, List.getElem_cons_succ, List.setIfInBounds_toArray, List.set_cons_zero, List.set_cons_succ]
        refine tkY 9 (v := ?v59) rfl (.inl ⟨by rfl, ?hy59⟩) ?hr59
        case hy59 => (intro w hSw; (try dsimp only at hSw); go_simp; try with_reducible rfl)
        simp only [Act.put, List.getElem_toArray, List.getElem_cons_zero, List.getElem_cons_succ, List.setIfInBounds_toArray, List.set_cons_zero, List.set_cons_succ]
        refine tkY 10 (v := ?v60) rfl (.inl ⟨by rfl, ?hy60⟩) ?hr60
        case hy60 => (intro w hSw; (try dsimp only at hSw); go_simp; try with_reducible rfl)
        simp only [Act.put, List.getElem_toArray, List.getElem_cons_zero, List.getElem_cons_succ, List.setIfInBounds_toArray, List.set_cons_zero, List.set_cons_succ]
        refine tkY 11 (v := ?v61) rfl (.inl ⟨by rfl, ?hy61⟩) ?hr61
        case hy61 => (intro w hSw; (try dsimp only at hSw); go_simp; try with_reducible rfl)
        simp only [Act.put, List.getElem_toArray, List.getElem_cons_zero, List.getElem_cons_succ, List.setIfInBounds_toArray, List.set_cons_zero, List.set_cons_succ]
        refine tkY 12 (v := ?v62) rfl (.inl ⟨by rfl, ?hy62⟩) ?hr62
        case hy62 => (intro w hSw; (try dsimp only at hSw); go_simp; try with_reducible rfl)
        simp only [Act.put, List.getElem_toArray, List.getElem_cons_zero, List.getElem_cons_succ, List.setIfInBounds_toArray, List.set_cons_zero, List.set_cons_succ]
        refine tkY 13 (v := ?v63) rfl (.inl ⟨by rfl, ?hy63⟩) ?hr63
        case hy63 => (intro w hSw; (try dsimp only at hSw); go_simp; try with_reducible rfl)
        simp only [Act.put, List.getElem_toArray, List.getElem_cons_zero, List.getElem_cons_succ, List.setIfInBounds_toArray, List.set_cons_zero, List.set_cons_succ]
        refine tkY 14 (v := ?v64) rfl (.inl ⟨by rfl, ?hy64⟩) ?hr64
        case hy64 => (intro w hSw; (try dsimp only at hSw); go_simp; try with_reducible rfl)
        simp only [Act.put, List.getElem_toArray, List.getElem_cons_zero, List.getElem_cons_succ, List.setIfInBounds_toArray, List.set_cons_zero, List.set_cons_succ]
        refine tkY 15 (v := ?v65) rfl (.inl ⟨by rfl, ?hy65⟩) ?hr65
        case hy65 => (intro w hSw; (try dsimp only at hSw); go_simp; try with_reducible rfl)
        simp only [Act.put, List.getElem_toArray, List.getElem_cons_zero, List.getElem_cons_succ, List.setIfInBounds_toArray, List.set_cons_zero, List.set_cons_succ]
        refine tkY 16 (v := ?v66) rfl (.inl ⟨by rfl, ?hy66⟩) ?hr66
        case hy66 => (intro w hSw; (try dsimp only at hSw); go_simp; try with_reducible rfl)
        simp only [Act.put, List.getElem_toArray, List.getElem_cons_zero, List.getElem_cons_succ, List.setIfInBounds_toArray, List.set_cons_zero, List.set_cons_succ]
        refine wpAnyH_ready (rs := [17]) (by kernel_rfl) (by simp) ?_
        refine AllReadyH.cons rfl (fun K hK => ?_) AllReadyH.nil
        go_simp
        go_at_call 19
        have CM := refMay_any x A1 c1 A2 c2 o t env _ (hS.refs.map (fun _ hp => (hbw.trans (hHeld.1.mono hbw.size)).cell hp) (fun b hb => Nat.lt_of_lt_of_le hb (hbw.trans (hHeld.1.mono hbw.size)).size)) (hS.envs.map (fun _ hp => (hbw.trans (hHeld.1.mono hbw.size)).cell hp) (fun b hb => Nat.lt_of_lt_of_le hb (hbw.trans (hHeld.1.mono hbw.size)).size)) hxm hz.ref hJ.ne
        refine CM.mono ?_
        clear CM
        rintro e r17 ⟨rfl, hbq⟩
        dsimp only
        refine hK.out _ _ ?_ (fun hHeld => ?_)
        · (try dsimp only)
          exact keepS.out _ _ hHeld hbq
        clear hK K
        try simp only [Act.put, List.getElem_toArray, List.getElem_cons_zero, List.getElem_cons_succ, List.setIfInBounds_toArray, List.set_cons_zero, List.set_cons_succ]
        refine tkY 18 (v := ?v67) rfl (.inl ⟨by rfl, ?hy67⟩) ?hr67
        case hy67 => (intro w hSw; (try dsimp only at hSw); go_simp; try with_reducible rfl)
        simp only [Act.put, List.getElem_toArray, List.getElem_cons_zero, List.getElem_cons_succ, List.setIfInBounds_toArray, List.set_cons_zero, List.set_cons_succ]
        refine wpAnyH_done (by kernel_rfl) ?_ _
        have hbW := hHeld.1
        clear hHeld hS1 keepS
        have hR3 := hR.below rSec_ok hbW
        have hJr3 := range_up hJr1 hbW (by omega)
        have hbx := hbw.trans (hbW.mono hbw.size)
        have z0 := (hbW.cell (p := ⟨g, o' + i * 5, none⟩) hgl).trans hS2.e0
        have z1 := (hbW.cell (p := ⟨g, o' + i * 5 + 1, none⟩) hgl).trans hS2.e1
        have z2 := (hbW.cell (p := ⟨g, o' + i * 5 + 2, none⟩) hgl).trans hS2.e2
        have z3 := (hbW.cell (p := ⟨g, o' + i * 5 + 3, none⟩) hgl).trans hS2.e3
        have z4 := (hbW.cell (p := ⟨g, o' + i * 5 + 4, none⟩) hgl).trans hS2.e4
        clear hS2 y28 y29
        generalize mayS anyB x o t env = q at *
        have zr17 := hbW.size
        have hO3 : OwnB w r17 [(w.heap.size, [.string o.prj, .string o.ref, .bool o.fork])] := hO2.kept hbW
        clear c0_0 c0_1 c0_2 cf0 hO2
        have c0_0 : r17.cell? ⟨w.heap.size, 0, none⟩ = some (.string o.prj) := hO3.c 0 0
        have c0_1 : r17.cell? ⟨w.heap.size, 1, none⟩ = some (.string o.ref) := hO3.c 0 1
        have c0_2 : r17.cell? ⟨w.heap.size, 2, none⟩ = some (.bool o.fork) := hO3.c 0 2
        have cf0 := hO3.fr 0
        cases q with
        | false =>
          have hvt2 := hvt.out
          rw [if_neg (by simp), List.append_nil] at hvt2
          clear hvt
          replace hvt2 := Lib.hid hvt2
          replace hR3 := Lib.hid hR3
          repeat' ((fail_if_success at_builtin); (first | go_skip | go_guarded | go_step))
          go_roundw
          case rel => exact ⟨i + 1, m, A', k, c', by omega, by first | rfl | go_num, hvt2.out.symm, hk.out, rfl, hR3.out⟩
          case measure => (try go_num); (try simp [intOf]); (try omega)
        | true =>
          have hvt2 := hvt.out
          rw [if_pos rfl] at hvt2
          clear hvt
          replace hvt2 := Lib.hid hvt2
          have hrd := sec_rd (hS.refs.map (S' := Beh r17 (.slice A' k c')) (fun _ hp => hbx.cell hp) (fun b hb => beh_old hR3 (Nat.lt_of_lt_of_le hb hbz.size))) (hS.envs.map (S' := Beh r17 (.slice A' k c')) (fun _ hp => hbx.cell hp) (fun b hb => beh_old hR3 (Nat.lt_of_lt_of_le hb hbz.size)))
          have hml : m.length ≤ l.length := by rw [hm]; have := vis_le (names := names) (o := o) (t := t) (env := env) (l := l.take i); rw [List.length_take] at this; omega
          have hby : (m.length + 1) * 88 ≤ 140737488355328 := by omega
          repeat' ((fail_if_success at_builtin); (first | go_skip | go_guarded | go_step))
          refine wp_appR1 (cs := #[.string x.name, .string x.text, .int .i64 x.level, .slice A1 x.refs.length c1, .slice A2 x.envs.length c2]) rSec_ok hR3 (Below.refl _ _) hrd Tryd.underlying27 sec_info hby ?_
          intro v w5 hR5
          obtain ⟨A5, c5, rfl⟩ := hR5.form
          have hl5 : (m ++ [x]).length = k + 1 := by rw [List.length_append, hk.out]; rfl
          rw [hl5] at hR5 ⊢
          clear hR3 hrd
          replace hR5 := Lib.hid hR5
          replace hl5 := Lib.hid hl5
          repeat' ((fail_if_success at_builtin); (first | go_skip | go_guarded | go_step))
          go_roundw
          case rel => exact ⟨i + 1, m ++ [x], A5, k + 1, c5, by omega, by first | rfl | go_num, hvt2.out.symm, hl5.out, rfl, hR5.out⟩
          case measure => (try go_num); (try simp [intOf]); (try omega)
    · have i1 : ¬ (i : Int) < (l.length : Int) := by omega
      rw [List.take_of_length_le (by omega)] at hm
      have hsl := hR
      rw [← hk.out] at hsl
      have hs := hsl.slice rSec_ok
      rw [hk.out] at hs
      have hfin : Secs wr A' k c' m := ⟨hs, by rw [hm]; exact Nat.le_trans vis_le hl, fun y hy => h.each y (vis_mem (by rw [← hm]; exact hy))⟩
      rw [hm] at hfin
      clear hsl hs hR
      replace hfin := Lib.hid hfin
      repeat' ((fail_if_success at_builtin); (first | go_skip | go_guarded | go_step))
      go_ret
      exact ⟨A', k, c', rfl, hfin.out, hbw⟩
set_option maxRecDepth 100000 in
set_option maxHeartbeats 6000000 in
theorem refMissing_any (l : List Sec) (A : Option Addr) (n c : Nat) (o : Org) (t : Int) (env : ByteArray) (J : List Value) (names : List ByteArray) (AN : Option Addr) (cN : Nat) (w : World) (h : Secs w A n c l) (hJ : JobV J names AN cN env) (hN : StrsR w (fun b => b < w.heap.size) AN cN names) (hz : OrgW o) :
    Calls Tryd.prog 24 #[.slice A n c, .agg #[.string o.prj, .string o.ref, .bool o.fork], .int .i64 t, .agg J.toArray] w fun e w' => ∃ A' k c', e = .returned (.slice A' k c') ∧ (missL (visB names o t env l) names).length = k ∧ StrsR w' (fun b => b < w'.heap.size) A' c' (missL (visB names o t env l) names) ∧ Below w.heap.size w w' := by
  have hn := h.n
  have hl := h.len
  subst hn
  have hJn := hJ.nl
  obtain ⟨v, hv⟩ : ∃ v, v = visB names o t env l := ⟨_, rfl⟩
  rw [← hv]
  replace hv := Lib.hid hv
  go_enter Tryd.func24, Tryd.ntmps24
  go_upto_region 1 with (fail)
  have hJr := range_new (w.alloc (.cells #[.string o.prj, .string o.ref, .bool o.fork] 41)) J 57
  have hJz : (w.alloc (.cells #[.string o.prj, .string o.ref, .bool o.fork] 41)).heap.size = w.heap.size + 1 := by simp
  rw [hJz] at hJr
  clear hJz
  have hbz : Below w.heap.size w ((w.alloc (.cells #[.string o.prj, .string o.ref, .bool o.fork] 41)).alloc (.cells J.toArray 57)) := ((Below.refl _ _).alloc (Nat.le_refl _) _).alloc (by simp) _
  have hC0 := (CellsAt.new w #[.string o.prj, .string o.ref, .bool o.fork] 41).kept ((Below.refl _ _).alloc (Nat.le_refl _) (.cells J.toArray 57))
  have hsz : ((w.alloc (.cells #[.string o.prj, .string o.ref, .bool o.fork] 41)).alloc (.cells J.toArray 57)).heap.size = w.heap.size + 2 := by simp
  generalize hx_ : World.alloc (World.alloc w _) _ = w0 at hJr hbz hC0 hsz ⊢
  clear hx_
  have hO1 : OwnB w w0 [(w.heap.size, [.string o.prj, .string o.ref, .bool o.fork])] := (OwnB.of hbz).push (Nat.le_refl _) hC0 (fun i b x h => by simp at h)
  clear hC0
  have c0_0 : w0.cell? ⟨w.heap.size, 0, none⟩ = some (.string o.prj) := hO1.c 0 0
  have c0_1 : w0.cell? ⟨w.heap.size, 1, none⟩ = some (.string o.ref) := hO1.c 0 1
  have c0_2 : w0.cell? ⟨w.heap.size, 2, none⟩ = some (.bool o.fork) := hO1.c 0 2
  have cf0 := hO1.fr 0
  have hbw := hO1.below
  have C := refVisible_any l A l.length c o t env J names AN cN w0 (h.below hbw) hJ (hN.map (fun _ hp => hbw.cell hp) (fun b hb => Nat.lt_of_lt_of_le hb hbw.size)) hz
  rw [← hv.out] at C
  replace C := Lib.hid C
  repeat' ((fail_if_success at_builtin); (first | (refine wpList_load_mid rfl 57 _ rfl (w.heap.size + 1) 0 rfl J _ hJr Tryd.underlying57 rfl (job_info hJ) ?_) | go_skip | go_guarded | go_step))
  repeat' ((fail_if_success at_builtin); (first | go_skip | go_guarded | go_step))
  refine C.out.mono ?_
  clear C
  rintro e w1 ⟨VA, vk, vc, rfl, hvs, hb1⟩
  dsimp only
  clear hbw
  have zw1 := hb1.size
  have hO2 : OwnB w w1 [(w.heap.size, [.string o.prj, .string o.ref, .bool o.fork])] := hO1.kept hb1
  clear c0_0 c0_1 c0_2 cf0 hO1
  have c0_0 : w1.cell? ⟨w.heap.size, 0, none⟩ = some (.string o.prj) := hO2.c 0 0
  have c0_1 : w1.cell? ⟨w.heap.size, 1, none⟩ = some (.string o.ref) := hO2.c 0 1
  have c0_2 : w1.cell? ⟨w.heap.size, 2, none⟩ = some (.bool o.fork) := hO2.c 0 2
  have cf0 := hO2.fr 0
  have hbw := hO2.below
  have hJr1 := range_up hJr hb1 (by omega)
  have y28 := hJr1 28 _ hJ.c28
  rw [Nat.zero_add] at y28
  have hO0 := Own.nil_ w1 9 1
  clear hJr
  repeat' ((fail_if_success at_builtin); (first | go_skip | go_guarded | go_step))
  go_loopw [10, 11] (fun u10 u11 wr => ∃ (i : Nat) (m : List ByteArray) (A' : Option Addr) (k c' : Nat), i ≤ names.length ∧ u11 = .int .i64 (i : Int) ∧ m = missL v (names.take i) ∧ m.length = k ∧ u10 = .slice A' k c' ∧ Own w1 wr 9 1 (.slice A' k c') k (cellsS m)) (fun _ u11 _ => names.length - (intOf u11).toNat)
  case atStart => exact ⟨0, [], none, 0, 0, by omega, rfl, by simp [missL], rfl, rfl, hO0⟩
  case round =>
    clear hO0
    obtain ⟨i, m, A', k, c', hi, rfl, hm, hk, rfl, hR⟩ := hrel
    replace hk := Lib.hid hk
    have i0 : (0 : Int) ≤ (i : Int) := by omega
    have i2 : IntKind.i64.wrap ((i : Int) + 1) = (i : Int) + 1 := IntWalk.i64_in _ (by omega)
    have hbr := hR.2
    clear hbw y28
    have zwr := hbr.size
    have hO3 : OwnB w wr [(w.heap.size, [.string o.prj, .string o.ref, .bool o.fork])] := hO2.kept hbr
    clear c0_0 c0_1 c0_2 cf0 hO2
    have c0_0 : wr.cell? ⟨w.heap.size, 0, none⟩ = some (.string o.prj) := hO3.c 0 0
    have c0_1 : wr.cell? ⟨w.heap.size, 1, none⟩ = some (.string o.ref) := hO3.c 0 1
    have c0_2 : wr.cell? ⟨w.heap.size, 2, none⟩ = some (.bool o.fork) := hO3.c 0 2
    have cf0 := hO3.fr 0
    have hbw := hO3.below
    have hvr := hvs.below hbr
    have hJr2 := range_up hJr1 hbr (by omega)
    have y28 := hJr2 28 _ hJ.c28
    rw [Nat.zero_add] at y28
    by_cases hlt : i < names.length
    · have i1 : (i : Int) < (names.length : Int) := by omega
      obtain ⟨s, hs⟩ : ∃ s, names[i]? = some s := ⟨_, List.getElem?_eq_getElem (by omega)⟩
      obtain ⟨g, o', rfl, hg, hcs⟩ := hN.at_ hs
      have y0 := (hbw.cell (p := ⟨g, o' + i, none⟩) hg).trans hcs
      have hmt := miss_take (v := v) hs
      rw [← hm] at hmt
      replace hmt := Lib.hid hmt
      clear hs hcs
      have C := refIndex_any s v VA vk vc wr hvr
      have hpa := posI_any (l := v) (s := s)
      generalize posI (sameN s.data.toList) v = z at *
      generalize v.any (sameN s.data.toList) = q at *
      clear hbw
      replace C := Lib.hid C
      repeat' ((fail_if_success at_builtin); (first | go_skip | go_guarded | go_step))
      refine C.out.mono ?_
      clear C
      rintro e w3 ⟨rfl, hb3⟩
      dsimp only
      have hR3 := hR.below hb3
      have hJr3 := range_up hJr2 hb3 (by omega)
      have z28 := hJr3 28 _ hJ.c28
      rw [Nat.zero_add] at z28
      have y3 := (hb3.cell (p := ⟨g, o' + i, none⟩) (Nat.lt_of_lt_of_le hg hO3.below.size)).trans y0
      clear hR hJr2 y28 y0
      have zw3 := hb3.size
      have hO4 : OwnB w w3 [(w.heap.size, [.string o.prj, .string o.ref, .bool o.fork])] := hO3.kept hb3
      clear c0_0 c0_1 c0_2 cf0 hO3
      have c0_0 : w3.cell? ⟨w.heap.size, 0, none⟩ = some (.string o.prj) := hO4.c 0 0
      have c0_1 : w3.cell? ⟨w.heap.size, 1, none⟩ = some (.string o.ref) := hO4.c 0 1
      have c0_2 : w3.cell? ⟨w.heap.size, 2, none⟩ = some (.bool o.fork) := hO4.c 0 2
      have cf0 := hO4.fr 0
      cases q with
      | true =>
        have hz0 : ¬ z < 0 := by have := of_decide_eq_false hpa; omega
        have hmt2 := hmt.out
        rw [if_pos rfl, List.append_nil] at hmt2
        clear hmt
        replace hmt2 := Lib.hid hmt2
        replace hR3 := Lib.hid hR3
        repeat' ((fail_if_success at_builtin); (first | go_skip | go_guarded | go_step))
        go_roundw
        case rel => exact ⟨i + 1, m, A', k, c', by omega, by first | rfl | go_num, hmt2.out.symm, hk.out, rfl, hR3.out⟩
        case measure => (try go_num); (try simp [intOf]); (try omega)
      | false =>
        have hz0 : z < 0 := of_decide_eq_true hpa
        have hmt2 := hmt.out
        rw [if_neg (by simp)] at hmt2
        have hml : m.length ≤ names.length := by rw [hm]; have := miss_len (v := v) (names := names.take i); rw [List.length_take] at this; omega
        rw [hk.out] at hml
        have hby : (k + 1) * 16 ≤ 140737488355328 := by omega
        clear hmt
        replace hmt2 := Lib.hid hmt2
        repeat' ((fail_if_success at_builtin); (first | go_skip | go_guarded | go_step))
        refine wp_app1 (cs := #[.string s]) hR3 Tryd.underlying22 str_infoS hby ?_
        intro v5 w5 hR5 _
        obtain ⟨A5, c5, rfl⟩ := hR5.slice_form
        have hl5 : (m ++ [s]).length = k + 1 := by rw [List.length_append, hk.out]; rfl
        have hce : cellsS m ++ (#[Value.string s] : Array Value).toList = cellsS (m ++ [s]) := by simp [cellsS]
        rw [hce] at hR5
        clear hR3 hce
        replace hR5 := Lib.hid hR5
        replace hl5 := Lib.hid hl5
        repeat' ((fail_if_success at_builtin); (first | go_skip | go_guarded | go_step))
        go_roundw
        case rel => exact ⟨i + 1, m ++ [s], A5, k + 1, c5, by omega, by first | rfl | go_num, hmt2.out.symm, hl5.out, rfl, hR5.out⟩
        case measure => (try go_num); (try simp [intOf]); (try omega)
    · have i1 : ¬ (i : Int) < (names.length : Int) := by omega
      rw [List.take_of_length_le (by omega)] at hm
      have hfin : StrsR wr (fun b => b < wr.heap.size) A' c' m := by
        have := hk.out
        subst this
        exact (StrsR.own hR).imp (fun b hb => hb.2)
      rw [hm] at hfin
      have hke := hk.out
      rw [hm] at hke
      clear hR
      replace hfin := Lib.hid hfin
      replace hke := Lib.hid hke
      repeat' ((fail_if_success at_builtin); (first | go_skip | go_guarded | go_step))
      go_ret
      exact ⟨A', k, c', rfl, hke.out, hfin.out, hbw⟩
end Go.Proofs.YtgloblokkejgmaaDoor
