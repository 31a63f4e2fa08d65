/- Secret: Visible. -/
import Derived.Test.YtgloblokkejgmaaDoorSeM1
import Derived.Deep.MidRow
namespace Go.Proofs.YtgloblokkejgmaaDoor
open Go.RowKit
theorem getD_eqS {l : List ByteArray} {j : Nat} (h : j < l.length) : l.getD j ByteArray.empty = l[j] := by rw [List.getD_eq_getElem?_getD, List.getElem?_eq_getElem h]; rfl
theorem hasN_any (l : List ByteArray) (s : ByteArray) (A : Option Addr) (c B : Nat) (w : World) (hs : Seq w B 1 A l.length (cellsS l)) (hl : l.length ≤ 9223372036854775807) :
    Calls Tryd.prog 47 #[.slice A l.length c, .string s] w fun e w' => e = .returned (.bool (hasL l s)) ∧ w' = w := by
  by_cases h0 : l.length = 0
  · have h1 : l = [] := List.eq_nil_of_length_eq_zero h0
    subst h1
    exact Tryd.slices_Contains_string_empty A c s w
  · obtain ⟨b, o, h, hb, hc⟩ := hs.2 (by omega)
    subst h
    refine (Tryd.slices_Contains_string b o l.length c l s w (Nat.le_refl _) hl (fun j hj => hc j _ (by rw [List.getElem?_map, List.getElem?_eq_getElem hj, getD_eqS hj]; rfl))).mono ?_
    rintro e w' ⟨rfl, rfl⟩
    refine ⟨?_, rfl⟩
    have : Lib.containsS (l.take l.length) s = hasL l s := by rw [List.take_length, Bool.eq_iff_iff, Lib.containsS_iff, hasL_mem]
    rw [this]
theorem names_has : ∀ (names : List ByteArray) (x : Sec), (names.any fun n => n.data.toList == x.nm) = hasL names x.name
  | [], _ => rfl
  | a :: l, x => by
    rw [List.any_cons, names_has l x]
    show (a.data.toList == x.name.data.toList || hasL l x.name) = (a.toList == x.name.toList || hasL l x.name)
    rw [ByteArray.toList_eq, ByteArray.toList_eq]
/-- is a secret received -/
def keepS (names : List ByteArray) (o : Org) (t : Int) (env : ByteArray) (x : Sec) : Bool := hasL names x.name && mayS anyB x o t env
abbrev visB (names : List ByteArray) (o : Org) (t : Int) (env : ByteArray) (l : List Sec) : List Sec := visL anyB names o t env l
theorem vis_filter (names : List ByteArray) (o : Org) (t : Int) (env : ByteArray) (l : List Sec) : visB names o t env l = l.filter (keepS names o t env) := by
  unfold visB visL keepS
  congr 1
  funext x
  rw [names_has]
theorem vis_take {names : List ByteArray} {o : Org} {t : Int} {env : ByteArray} {l : List Sec} {i : Nat} {x : Sec} (hx : l[i]? = some x) : visB names o t env (l.take (i + 1)) = visB names o t env (l.take i) ++ if keepS names o t env x = true then [x] else [] := by
  rw [vis_filter, vis_filter, List.take_add_one, hx, List.filter_append]
  congr 1
  simp only [Option.toList_some, List.filter_cons, List.filter_nil]
theorem vis_mem {names : List ByteArray} {o : Org} {t : Int} {env : ByteArray} {l : List Sec} {x : Sec} (h : x ∈ visB names o t env l) : x ∈ l := by
  rw [vis_filter] at h
  exact (List.mem_filter.1 h).1
theorem vis_le {names : List ByteArray} {o : Org} {t : Int} {env : ByteArray} {l : List Sec} : (visB names o t env l).length ≤ l.length := vis_len
/-- a job: its cells; what it declares, its environment -/
structure JobV (J : List Value) (names : List ByteArray) (AN : Option Addr) (cN : Nat) (env : ByteArray) : Prop where
  len : J.length = 39
  c28 : J[28]? = some (.slice AN names.length cN)
  c29 : J[29]? = some (.string env)
  nl : names.length ≤ 1000000
  ne : env.size ≤ 1000000
theorem range_up {w w' : World} {b o : Nat} {J : List Value} (h : w.rangeAt b o J) (hb : Below w.heap.size w w') (hl : b < w.heap.size) : w'.rangeAt b o J := fun j v hj => (hb.cell (p := ⟨b, o + j, none⟩) hl).trans (h j v hj)
theorem range_up2 {w w' : World} {B b o : Nat} {J : List Value} (h : w.rangeAt b o J) (hb : Below B w w') (hl : b < B) : w'.rangeAt b o J := fun j v hj => (hb.cell (p := ⟨b, o + j, none⟩) hl).trans (h j v hj)
theorem range_new (w : World) (J : List Value) (t : TypeId) : (w.alloc (.cells J.toArray t)).rangeAt w.heap.size 0 J := fun j v hj => by
  rw [Nat.zero_add]
  exact (CellsAt.new w J.toArray t).cell j v (by simpa using hj)
theorem job_info {J : List Value} {names : List ByteArray} {AN : Option Addr} {cN : Nat} {env : ByteArray} (h : JobV J names AN cN env) : (Tryd.prog.info? 57).map (·.size) = some J.length := by rw [h.len]; kernel_rfl
structure OrgW (o : Org) : Prop where
  ref : o.ref.size ≤ 1000000
set_option maxRecDepth 100000 in
set_option maxHeartbeats 6000000 in
theorem visible_any (l : List Sec) (A : Option Addr) (n c : Nat) (o : Org) (t : Int) (env : ByteArray) (J : List Value) (names : List ByteArray) (AN : Option Addr) (cN : Nat) (w : World) (h : Secs w A n c l) (hJ : JobV J names AN cN env) (hN : StrsR w (fun b => b < w.heap.size) AN cN names) (hz : OrgW o) :
    Calls Tryd.prog 20 #[.slice A n c, .agg #[.string o.prj, .string o.ref, .bool o.fork], .int .i64 t, .agg J.toArray] w fun e w' => ∃ A' k c', e = .returned (.slice A' k c') ∧ Secs w' A' k c' (visB names o t env l) ∧ Below w.heap.size w w' := by
  have hn := h.n
  have hl := h.len
  subst hn
  have hJn := hJ.nl
  go_enter Tryd.func20, Tryd.ntmps20
  go_upto_region 2 with (fail)
  have hJr := range_new (w.alloc (.cells #[.string o.prj, .string o.ref, .bool o.fork] 41)) J 57
  have hJz : (w.alloc (.cells #[.string o.prj, .string o.ref, .bool o.fork] 41)).heap.size = w.heap.size + 1 := by simp
  rw [hJz] at hJr
  clear hJz
  have hbz : Below w.heap.size w ((w.alloc (.cells #[.string o.prj, .string o.ref, .bool o.fork] 41)).alloc (.cells J.toArray 57)) := ((Below.refl _ _).alloc (Nat.le_refl _) _).alloc (by simp) _
  have hC0 := (CellsAt.new w #[.string o.prj, .string o.ref, .bool o.fork] 41).kept ((Below.refl _ _).alloc (Nat.le_refl _) (.cells J.toArray 57))
  have hsz : ((w.alloc (.cells #[.string o.prj, .string o.ref, .bool o.fork] 41)).alloc (.cells J.toArray 57)).heap.size = w.heap.size + 2 := by simp
  generalize hx_ : World.alloc (World.alloc w _) _ = w0 at hJr hbz hC0 hsz ⊢
  clear hx_
  have hO1 : OwnB w w0 [(w.heap.size, [.string o.prj, .string o.ref, .bool o.fork])] := (OwnB.of hbz).push (Nat.le_refl _) hC0 (fun i b x h => by simp at h)
  clear hC0
  have c0_0 : w0.cell? ⟨w.heap.size, 0, none⟩ = some (.string o.prj) := hO1.c 0 0
  have c0_1 : w0.cell? ⟨w.heap.size, 1, none⟩ = some (.string o.ref) := hO1.c 0 1
  have c0_2 : w0.cell? ⟨w.heap.size, 2, none⟩ = some (.bool o.fork) := hO1.c 0 2
  have cf0 := hO1.fr 0
  have hR0 := OwnR.nil (r := rSec) (sz := 5) w0 secT
  repeat' ((fail_if_success at_builtin); (first | go_skip | go_guarded | go_step))
  go_loopw [9, 14] (fun u9 u14 wr => ∃ (i : Nat) (m : List Sec) (A' : Option Addr) (k c' : Nat), i ≤ l.length ∧ u14 = .int .i64 (i : Int) ∧ m = visB names o t env (l.take i) ∧ m.length = k ∧ u9 = .slice A' k c' ∧ OwnR rSec 5 w0 wr secT (.slice A' k c') m) (fun _ u14 _ => l.length - (intOf u14).toNat)
  case atStart => exact ⟨0, [], none, 0, 0, by omega, rfl, by simp [visB, visL], rfl, rfl, hR0⟩
  case round =>
    clear hR0
    obtain ⟨i, m, A', k, c', hi, rfl, hm, hk, rfl, hR⟩ := hrel
    replace hk := Lib.hid hk
    have i0 : (0 : Int) ≤ (i : Int) := by omega
    have i2 : IntKind.i64.wrap ((i : Int) + 1) = (i : Int) + 1 := IntWalk.i64_in _ (by omega)
    have hbr := hR.bel
    have zwr := hbr.size
    have hO2 : OwnB w wr [(w.heap.size, [.string o.prj, .string o.ref, .bool o.fork])] := hO1.kept hbr
    clear c0_0 c0_1 c0_2 cf0 hO1
    have c0_0 : wr.cell? ⟨w.heap.size, 0, none⟩ = some (.string o.prj) := hO2.c 0 0
    have c0_1 : wr.cell? ⟨w.heap.size, 1, none⟩ = some (.string o.ref) := hO2.c 0 1
    have c0_2 : wr.cell? ⟨w.heap.size, 2, none⟩ = some (.bool o.fork) := hO2.c 0 2
    have cf0 := hO2.fr 0
    have hbw := hO2.below
    have hJr1 := range_up2 hJr hbr (by omega)
    by_cases hlt : i < l.length
    · have i1 : (i : Int) < (l.length : Int) := by omega
      obtain ⟨x, hx⟩ : ∃ x, l[i]? = some x := ⟨_, List.getElem?_eq_getElem (by omega)⟩
      have hxm := h.each x (List.mem_of_getElem? hx)
      obtain ⟨g, o', A1, c1, A2, c2, rfl, hg, hS⟩ := sec_at h.rd hx
      have hS2 := hS.below hg hbw
      have y0 := hS2.e0
      have y1 := hS2.e1
      have y2 := hS2.e2
      have y3 := hS2.e3
      have y4 := hS2.e4
      have hvt := vis_take (names := names) (o := o) (t := t) (env := env) hx
      rw [← hm] at hvt
      replace hvt := Lib.hid hvt
      clear hx
      go_upto_region 5 with (fail)
      generalize hx_ : World.alloc wr _ = wo3
      have hO3 : OwnB w wo3 [(wr.heap.size, [.string x.name, .string x.text, .int .i64 x.level, .slice A1 x.refs.length c1, .slice A2 x.envs.length c2]), (w.heap.size, [.string o.prj, .string o.ref, .bool o.fork])] := by rw [← hx_]; exact hO2.new #[.string x.name, .string x.text, .int .i64 x.level, .slice A1 x.refs.length c1, .slice A2 x.envs.length c2] _ (g := wr.heap.size)
      have hbn : Below wr.heap.size wr wo3 := by rw [← hx_]; exact (Below.refl _ _).alloc (Nat.le_refl _) _
      have zwo3 : wo3.heap.size = wr.heap.size + 1 := by rw [← hx_]; simp
      clear hx_ c0_0 c0_1 c0_2 cf0 hO2
      have c0_0 : wo3.cell? ⟨wr.heap.size, 0, none⟩ = some (.string x.name) := hO3.c 0 0
      have c0_1 : wo3.cell? ⟨wr.heap.size, 1, none⟩ = some (.string x.text) := hO3.c 0 1
      have c0_2 : wo3.cell? ⟨wr.heap.size, 2, none⟩ = some (.int .i64 x.level) := hO3.c 0 2
      have c0_3 : wo3.cell? ⟨wr.heap.size, 3, none⟩ = some (.slice A1 x.refs.length c1) := hO3.c 0 3
      have c0_4 : wo3.cell? ⟨wr.heap.size, 4, none⟩ = some (.slice A2 x.envs.length c2) := hO3.c 0 4
      have cf0 := hO3.fr 0
      have c1_0 : wo3.cell? ⟨w.heap.size, 0, none⟩ = some (.string o.prj) := hO3.c 1 0
      have c1_1 : wo3.cell? ⟨w.heap.size, 1, none⟩ = some (.string o.ref) := hO3.c 1 1
      have c1_2 : wo3.cell? ⟨w.heap.size, 2, none⟩ = some (.bool o.fork) := hO3.c 1 2
      have cf1 := hO3.fr 1
      have hRz := hR.below rSec_ok hbn
      have hJr2 := range_up hJr1 hbn (by omega)
      have hbn2 := hbn
      clear y0 y1 y2 y3 y4 hS2 hbn hJr1 hbw
      have hbw := hO3.below
      have y28 := hJr2 28 _ hJ.c28
      have y29 := hJr2 29 _ hJ.c29
      rw [Nat.zero_add] at y28 y29
      have C := hasN_any names x.name AN cN w.heap.size wo3 (Seq.below hN.seq hbw) (by omega)
      replace C := Lib.hid C
      repeat' ((fail_if_success at_builtin); (first | go_skip | go_guarded | go_step))
      refine C.out.mono ?_
      clear C
      rintro e w2 ⟨rfl, hw2⟩
      rw [hw2]
      clear hw2 w2
      dsimp only
      have hkp : keepS names o t env x = (hasL names x.name && mayS anyB x o t env) := rfl
      replace hkp := Lib.hid hkp
      cases hh : hasL names x.name with
      | false =>
        have hv := hkp.out
        rw [hh, Bool.false_and] at hv
        have hvt2 := hvt.out
        rw [hv, if_neg (by simp), List.append_nil] at hvt2
        clear hv hh hkp hvt
        replace hvt2 := Lib.hid hvt2
        replace hRz := Lib.hid hRz
        repeat' ((fail_if_success at_builtin); (first | go_skip | go_guarded | go_step))
        go_roundw
        case rel => exact ⟨i + 1, m, A', k, c', by omega, by first | rfl | go_num, hvt2.out.symm, hk.out, rfl, hRz.out⟩
        case measure => (try go_num); (try simp [intOf]); (try omega)
      | true =>
        have CM := may_any x A1 c1 A2 c2 o t env wo3 (hS.refs.map (fun _ hp => hbw.cell hp) (fun b hb => Nat.lt_of_lt_of_le hb hbw.size)) (hS.envs.map (fun _ hp => hbw.cell hp) (fun b hb => Nat.lt_of_lt_of_le hb hbw.size)) hxm hz.ref hJ.ne
        have hv := hkp.out
        rw [hh, Bool.true_and] at hv
        rw [← hv] at CM
        clear hh hkp hv
        replace CM := Lib.hid CM
        generalize keepS names o t env x = q at *
        repeat' ((fail_if_success at_builtin); (first | go_skip | go_guarded | go_step))
        refine CM.out.mono ?_
        clear CM
        rintro e w3 ⟨rfl, hb3⟩
        dsimp only
        have hR3 := hRz.below rSec_ok hb3
        have hJr3 := range_up hJr2 hb3 (by omega)
        clear hRz hJr2 hbw y28 y29
        have zw3 := hb3.size
        have hO4 : OwnB w w3 [(wr.heap.size, [.string x.name, .string x.text, .int .i64 x.level, .slice A1 x.refs.length c1, .slice A2 x.envs.length c2]), (w.heap.size, [.string o.prj, .string o.ref, .bool o.fork])] := hO3.kept hb3
        clear c0_0 c0_1 c0_2 c0_3 c0_4 cf0 c1_0 c1_1 c1_2 cf1 hO3
        have c0_0 : w3.cell? ⟨wr.heap.size, 0, none⟩ = some (.string x.name) := hO4.c 0 0
        have c0_1 : w3.cell? ⟨wr.heap.size, 1, none⟩ = some (.string x.text) := hO4.c 0 1
        have c0_2 : w3.cell? ⟨wr.heap.size, 2, none⟩ = some (.int .i64 x.level) := hO4.c 0 2
        have c0_3 : w3.cell? ⟨wr.heap.size, 3, none⟩ = some (.slice A1 x.refs.length c1) := hO4.c 0 3
        have c0_4 : w3.cell? ⟨wr.heap.size, 4, none⟩ = some (.slice A2 x.envs.length c2) := hO4.c 0 4
        have cf0 := hO4.fr 0
        have c1_0 : w3.cell? ⟨w.heap.size, 0, none⟩ = some (.string o.prj) := hO4.c 1 0
        have c1_1 : w3.cell? ⟨w.heap.size, 1, none⟩ = some (.string o.ref) := hO4.c 1 1
        have c1_2 : w3.cell? ⟨w.heap.size, 2, none⟩ = some (.bool o.fork) := hO4.c 1 2
        have cf1 := hO4.fr 1
        have hbw := hO4.below
        cases q with
        | false =>
          have hvt2 := hvt.out
          rw [if_neg (by simp), List.append_nil] at hvt2
          clear hvt
          replace hvt2 := Lib.hid hvt2
          replace hR3 := Lib.hid hR3
          repeat' ((fail_if_success at_builtin); (first | go_skip | go_guarded | go_step))
          go_roundw
          case rel => exact ⟨i + 1, m, A', k, c', by omega, by first | rfl | go_num, hvt2.out.symm, hk.out, rfl, hR3.out⟩
          case measure => (try go_num); (try simp [intOf]); (try omega)
        | true =>
          have hvt2 := hvt.out
          rw [if_pos rfl] at hvt2
          clear hvt
          replace hvt2 := Lib.hid hvt2
          have CC := copied_any x A1 c1 A2 c2 w3 (hS.refs.map (fun _ hp => hbw.cell hp) (fun b hb => Nat.lt_of_lt_of_le hb hbw.size)) (hS.envs.map (fun _ hp => hbw.cell hp) (fun b hb => Nat.lt_of_lt_of_le hb hbw.size)) (by have := hxm.refs; omega) (by have := hxm.envs; omega)
          replace CC := Lib.hid CC
          repeat' ((fail_if_success at_builtin); (first | go_skip | go_guarded | go_step))
          refine CC.out.mono ?_
          clear CC
          rintro e w4 ⟨B1, d1, B2, d2, rfl, hs1, hs2, hb4⟩
          dsimp only
          have hrd := sec_rd (hs1.imp (fun b h => beh_lo hR3 h.1 h.2)) (hs2.imp (fun b h => beh_lo hR3 h.1 h.2))
          have hml : m.length ≤ l.length := by rw [hm]; have := vis_le (names := names) (o := o) (t := t) (env := env) (l := l.take i); rw [List.length_take] at this; omega
          have hby : (m.length + 1) * 88 ≤ 140737488355328 := by omega
          clear hs1 hs2
          repeat' ((fail_if_success at_builtin); (first | go_skip | go_guarded | go_step))
          refine wp_appR1 rSec_ok hR3 hb4 hrd Tryd.underlying27 sec_info hby ?_
          intro v w5 hR5
          obtain ⟨A5, c5, rfl⟩ := hR5.form
          have hl5 : (m ++ [x]).length = k + 1 := by rw [List.length_append, hk.out]; rfl
          rw [hl5] at hR5 ⊢
          clear hR3 hrd hb4
          replace hR5 := Lib.hid hR5
          replace hl5 := Lib.hid hl5
          repeat' ((fail_if_success at_builtin); (first | go_skip | go_guarded | go_step))
          go_roundw
          case rel => exact ⟨i + 1, m ++ [x], A5, k + 1, c5, by omega, by first | rfl | go_num, hvt2.out.symm, hl5.out, rfl, hR5.out⟩
          case measure => (try go_num); (try simp [intOf]); (try omega)
    · have i1 : ¬ (i : Int) < (l.length : Int) := by omega
      rw [List.take_of_length_le (by omega)] at hm
      have hsl := hR
      rw [← hk.out] at hsl
      have hs := hsl.slice rSec_ok
      rw [hk.out] at hs
      have hfin : Secs wr A' k c' m := ⟨hs, by rw [hm]; exact Nat.le_trans vis_le hl, fun y hy => h.each y (vis_mem (by rw [← hm]; exact hy))⟩
      rw [hm] at hfin
      clear hsl hs hR
      replace hfin := Lib.hid hfin
      repeat' ((fail_if_success at_builtin); (first | go_skip | go_guarded | go_step))
      go_ret
      exact ⟨A', k, c', rfl, hfin.out, hbw⟩
end Go.Proofs.YtgloblokkejgmaaDoor
