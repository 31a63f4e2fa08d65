/- Secret: the laws about May and Valid. -/
import Derived.Test.YtgloblokkejgmaaDoorSeLv
namespace Go.Proofs.YtgloblokkejgmaaDoor
open Go.RowKit
theorem secs_cells {w : World} {g : Nat} {l : List Sec} {cs : List Value} (h : CellsAt w g cs) (hr : RList rSec 5 w (fun b => b < w.heap.size) l cs) : RSlice rSec 5 w (fun b => b < w.heap.size) (some ⟨g, 0, none⟩) l.length l.length l :=
  ⟨rfl, Nat.le_refl _, (fun h => by cases h), cs, ⟨hr.length, fun _ => ⟨g, 0, rfl, h.lt, fun j u hu => by rw [Nat.zero_add]; exact h.cell j u hu⟩⟩, hr⟩
theorem secsB_one {w : World} {g : Nat} {x : Sec} {A1 : Option Addr} {c1 : Nat} {A2 : Option Addr} {c2 : Nat} (h : CellsAt w g [.string x.name, .string x.text, .int .i64 x.level, .slice A1 x.refs.length c1, .slice A2 x.envs.length c2]) (h1 : StrsR w (fun b => b < w.heap.size) A1 c1 x.refs) (h2 : StrsR w (fun b => b < w.heap.size) A2 c2 x.envs) (hx : SecB x) : SecsB w (some ⟨g, 0, none⟩) 1 1 [x] :=
  ⟨secs_cells h (RList.one (sec_rd h1 h2) rfl), by simp, fun y hy => by rw [List.mem_singleton.1 hy]; exact hx⟩
theorem small_one {x : Sec} (h : smallL [x] = true) : SecW x := (smallL_out h).2 x (List.mem_singleton.2 rfl)
theorem StrsR.upB {w w' : World} {A : Option Addr} {c : Nat} {l : List ByteArray} (h : StrsR w (fun b => b < w.heap.size) A c l) (hb : Below w.heap.size w w') : StrsR w' (fun b => b < w'.heap.size) A c l := h.map (fun _ hp => hb.cell hp) (fun _ hp => Nat.lt_of_lt_of_le hp hb.size)
theorem JobC.up {w w' : World} {J : List Value} {names : List ByteArray} {AN : Option Addr} {cN : Nat} {env : ByteArray} (h : JobC w J names AN cN env) (hb : Below w.heap.size w w') : JobC w' J names AN cN env := ⟨h.len, h.c28, h.c29, h.rd.upB hb, h.nl⟩
theorem made_strs (w : World) (n : Nat) : StrsR (w.alloc (.cells (madeCells #[.string ⟨#[]⟩] n) 9)) (Lo w.heap.size (w.alloc (.cells (madeCells #[.string ⟨#[]⟩] n) 9))) (some ⟨w.heap.size, 0, none⟩) n (List.replicate n ⟨#[]⟩) := by
  refine ⟨⟨by simp, fun _ => ⟨w.heap.size, 0, rfl, ⟨Nat.le_refl _, by simp⟩, fun j u hu => ?_⟩⟩, by simp, fun h => by cases h⟩
  have hj : j < n := by have := (List.getElem?_eq_some_iff.1 hu).1; simpa using this
  have hu2 : u = .string ⟨#[]⟩ := by
    rw [List.getElem?_map, List.getElem?_replicate, if_pos hj] at hu
    exact (Option.some.inj hu).symm
  subst hu2
  rw [Nat.zero_add, World.cell?_alloc_new]
  unfold madeCells
  simp [hj, Nat.mod_one]
set_option maxRecDepth 100000 in
set_option maxHeartbeats 6000000 in
theorem may_law (x : Sec) (A1 : Option Addr) (c1 : Nat) (A2 : Option Addr) (c2 : Nat) (o : Org) (t : Int) (J : List Value) (names : List ByteArray) (AN : Option Addr) (cN : Nat) (env : ByteArray) (w : World) (h1 : StrsR w (fun b => b < w.heap.size) A1 c1 x.refs) (h2 : StrsR w (fun b => b < w.heap.size) A2 c2 x.envs) (hx : SecB x) (hJ : JobC w J names AN cN env) :
    Calls Tryd.prog 6 #[.agg #[.string x.name, .string x.text, .int .i64 x.level, .slice A1 x.refs.length c1, .slice A2 x.envs.length c2], .agg (caseL o t J).toArray] w fun e w' => e = .returned (.bool true) ∧ Below w.heap.size w w' := by
  go_enter Tryd.func6, Tryd.ntmps6
  go_upto_region 1 with (fail)
  have hCr := range_new (w.alloc (.cells #[.string x.name, .string x.text, .int .i64 x.level, .slice A1 x.refs.length c1, .slice A2 x.envs.length c2] secT)) (caseL o t J) 59
  have hCz : (w.alloc (.cells #[.string x.name, .string x.text, .int .i64 x.level, .slice A1 x.refs.length c1, .slice A2 x.envs.length c2] secT)).heap.size = w.heap.size + 1 := by simp
  rw [hCz] at hCr
  have hbz : Below w.heap.size w ((w.alloc (.cells #[.string x.name, .string x.text, .int .i64 x.level, .slice A1 x.refs.length c1, .slice A2 x.envs.length c2] secT)).alloc (.cells (caseL o t J).toArray 59)) := ((Below.refl _ _).alloc (Nat.le_refl _) _).alloc (by simp) _
  have hC0 := (CellsAt.new w #[.string x.name, .string x.text, .int .i64 x.level, .slice A1 x.refs.length c1, .slice A2 x.envs.length c2] secT).kept ((Below.refl _ _).alloc (Nat.le_refl _) (.cells (caseL o t J).toArray 59))
  have hsz : w.heap.size + 1 < ((w.alloc (.cells #[.string x.name, .string x.text, .int .i64 x.level, .slice A1 x.refs.length c1, .slice A2 x.envs.length c2] secT)).alloc (.cells (caseL o t J).toArray 59)).heap.size := by simp
  generalize hx_ : World.alloc (World.alloc w _) _ = w0 at hCr hbz hC0 hsz ⊢
  clear hx_ hCz
  have hO1 : OwnB w w0 [(w.heap.size, [.string x.name, .string x.text, .int .i64 x.level, .slice A1 x.refs.length c1, .slice A2 x.envs.length c2])] := (OwnB.of hbz).push (Nat.le_refl _) hC0 (fun i b x h => by simp at h)
  clear hC0
  have c0_0 : w0.cell? ⟨w.heap.size, 0, none⟩ = some (.string x.name) := hO1.c 0 0
  have c0_1 : w0.cell? ⟨w.heap.size, 1, none⟩ = some (.string x.text) := hO1.c 0 1
  have c0_2 : w0.cell? ⟨w.heap.size, 2, none⟩ = some (.int .i64 x.level) := hO1.c 0 2
  have c0_3 : w0.cell? ⟨w.heap.size, 3, none⟩ = some (.slice A1 x.refs.length c1) := hO1.c 0 3
  have c0_4 : w0.cell? ⟨w.heap.size, 4, none⟩ = some (.slice A2 x.envs.length c2) := hO1.c 0 4
  have cf0 := hO1.fr 0
  have hbv := (Below.refl w0.heap.size w0).alloc (Nat.le_refl _) (.cells #[.string x.name, .string x.text, .int .i64 x.level, .slice A1 x.refs.length c1, .slice A2 x.envs.length c2] secT)
  have hbw0 := hbz.trans (hbv.mono hbz.size)
  have C := caseSmall_any [x] (some ⟨w0.heap.size, 0, none⟩) 1 1 o t J names AN cN env (w0.alloc (.cells #[.string x.name, .string x.text, .int .i64 x.level, .slice A1 x.refs.length c1, .slice A2 x.envs.length c2] secT)) (secsB_one (CellsAt.new w0 #[.string x.name, .string x.text, .int .i64 x.level, .slice A1 x.refs.length c1, .slice A2 x.envs.length c2] secT) (h1.upB hbw0) (h2.upB hbw0) hx) (hJ.up hbw0)
  replace C := Lib.hid C
  have hCv := range_up hCr hbv hsz
  repeat' ((fail_if_success at_builtin); (first | (refine wpList_load_midG 59 _ rfl (w.heap.size + 1) 0 rfl (by rfl) (caseL o t J) _ hCv Tryd.underlying59 rfl (case_info hJ o t) ?_) | go_skip | go_guarded | go_step))
  refine C.out.mono ?_
  clear C
  rintro e w1 ⟨rfl, hb1⟩
  dsimp only
  replace hb1 := hbv.trans (hb1.mono hbv.size)
  clear hbv hbw0 hCv
  have zw1 := hb1.size
  have hO2 : OwnB w w1 [(w.heap.size, [.string x.name, .string x.text, .int .i64 x.level, .slice A1 x.refs.length c1, .slice A2 x.envs.length c2])] := hO1.kept hb1
  clear c0_0 c0_1 c0_2 c0_3 c0_4 cf0 hO1
  have c0_0 : w1.cell? ⟨w.heap.size, 0, none⟩ = some (.string x.name) := hO2.c 0 0
  have c0_1 : w1.cell? ⟨w.heap.size, 1, none⟩ = some (.string x.text) := hO2.c 0 1
  have c0_2 : w1.cell? ⟨w.heap.size, 2, none⟩ = some (.int .i64 x.level) := hO2.c 0 2
  have c0_3 : w1.cell? ⟨w.heap.size, 3, none⟩ = some (.slice A1 x.refs.length c1) := hO2.c 0 3
  have c0_4 : w1.cell? ⟨w.heap.size, 4, none⟩ = some (.slice A2 x.envs.length c2) := hO2.c 0 4
  have cf0 := hO2.fr 0
  have hbw := hO2.below
  replace hCr := range_up hCr hb1 hsz
  have hcl : w.heap.size + 1 < w1.heap.size := by omega
  cases hs : smallC [x] names o env with
  | false =>
    repeat' ((fail_if_success at_builtin); (first | go_skip | go_guarded | go_step))
    refine (lives_any _).mono ?_
    rintro e wl ⟨rfl, hbl⟩
    dsimp only
    have hbf := hbw.trans (hbl.mono hbw.size)
    repeat' ((fail_if_success at_builtin); (first | go_skip | go_guarded | go_step))
    go_ret
    exact ⟨rfl, hbf⟩
  | true =>
    obtain ⟨hsm, hn70, hr2, he2⟩ := smallC_out hs
    have hw := small_one hsm
    have hJv := hJ.v hn70 he2
    clear hs hsm
    have y0 := case_cell hCr 0 (v := .string o.prj) rfl
    have y1 := case_cell hCr 1 (v := .string o.ref) rfl
    have y2 := case_cell hCr 2 (v := .bool o.fork) rfl
    have y3 := case_cell hCr 3 (v := .int .i64 t) rfl
    have y33 := case_job hCr 29 _ hJ.c29
    have CM := fun v (hv : Below w1.heap.size w1 v) => may_any x A1 c1 A2 c2 o t env v (h1.upB (hbw.trans (hv.mono hbw.size))) (h2.upB (hbw.trans (hv.mono hbw.size))) hw (by omega) (by omega)
    have CR := fun v (hv : Below w1.heap.size w1 v) => refMay_any x A1 c1 A2 c2 o t env v (h1.upB (hbw.trans (hv.mono hbw.size))) (h2.upB (hbw.trans (hv.mono hbw.size))) hw (by omega) (by omega)
    replace CM := Lib.hid CM
    replace CR := Lib.hid CR
    generalize mayS anyB x o t env = q at *
    cases q with
    | false =>
      have hS0 : (Below w1.heap.size w1 w1 ∧ w1.cell? ⟨w.heap.size, 0, none⟩ = some (.string x.name) ∧ w1.cell? ⟨w.heap.size, 1, none⟩ = some (.string x.text) ∧ w1.cell? ⟨w.heap.size, 2, none⟩ = some (.int .i64 x.level) ∧ w1.cell? ⟨w.heap.size, 3, none⟩ = some (.slice A1 x.refs.length c1) ∧ w1.cell? ⟨w.heap.size, 4, none⟩ = some (.slice A2 x.envs.length c2) ∧ w1.cell? ⟨(w.heap.size + 1), 0, none⟩ = some (.string o.prj) ∧ w1.cell? ⟨(w.heap.size + 1), 1, none⟩ = some (.string o.ref) ∧ w1.cell? ⟨(w.heap.size + 1), 2, none⟩ = some (.bool o.fork) ∧ w1.cell? ⟨(w.heap.size + 1), 3, none⟩ = some (.int .i64 t) ∧ w1.cell? ⟨(w.heap.size + 1), 33, none⟩ = some (.string env)) := ⟨Below.refl _ _, c0_0, c0_1, c0_2, c0_3, c0_4, y0, y1, y2, y3, y33⟩
      have keepS : ∀ v1 v2 : World, (Below w1.heap.size w1 v1 ∧ v1.cell? ⟨w.heap.size, 0, none⟩ = some (.string x.name) ∧ v1.cell? ⟨w.heap.size, 1, none⟩ = some (.string x.text) ∧ v1.cell? ⟨w.heap.size, 2, none⟩ = some (.int .i64 x.level) ∧ v1.cell? ⟨w.heap.size, 3, none⟩ = some (.slice A1 x.refs.length c1) ∧ v1.cell? ⟨w.heap.size, 4, none⟩ = some (.slice A2 x.envs.length c2) ∧ v1.cell? ⟨(w.heap.size + 1), 0, none⟩ = some (.string o.prj) ∧ v1.cell? ⟨(w.heap.size + 1), 1, none⟩ = some (.string o.ref) ∧ v1.cell? ⟨(w.heap.size + 1), 2, none⟩ = some (.bool o.fork) ∧ v1.cell? ⟨(w.heap.size + 1), 3, none⟩ = some (.int .i64 t) ∧ v1.cell? ⟨(w.heap.size + 1), 33, none⟩ = some (.string env)) → Below v1.heap.size v1 v2 → (Below w1.heap.size w1 v2 ∧ v2.cell? ⟨w.heap.size, 0, none⟩ = some (.string x.name) ∧ v2.cell? ⟨w.heap.size, 1, none⟩ = some (.string x.text) ∧ v2.cell? ⟨w.heap.size, 2, none⟩ = some (.int .i64 x.level) ∧ v2.cell? ⟨w.heap.size, 3, none⟩ = some (.slice A1 x.refs.length c1) ∧ v2.cell? ⟨w.heap.size, 4, none⟩ = some (.slice A2 x.envs.length c2) ∧ v2.cell? ⟨(w.heap.size + 1), 0, none⟩ = some (.string o.prj) ∧ v2.cell? ⟨(w.heap.size + 1), 1, none⟩ = some (.string o.ref) ∧ v2.cell? ⟨(w.heap.size + 1), 2, none⟩ = some (.bool o.fork) ∧ v2.cell? ⟨(w.heap.size + 1), 3, none⟩ = some (.int .i64 t) ∧ v2.cell? ⟨(w.heap.size + 1), 33, none⟩ = some (.string env)) := fun v1 v2 h hb => ⟨h.1.trans (hb.mono h.1.size), (hb.cell (p := ⟨w.heap.size, _, none⟩) (Nat.lt_of_lt_of_le (hO2.lt 0) h.1.size)).trans h.2.1, (hb.cell (p := ⟨w.heap.size, _, none⟩) (Nat.lt_of_lt_of_le (hO2.lt 0) h.1.size)).trans h.2.2.1, (hb.cell (p := ⟨w.heap.size, _, none⟩) (Nat.lt_of_lt_of_le (hO2.lt 0) h.1.size)).trans h.2.2.2.1, (hb.cell (p := ⟨w.heap.size, _, none⟩) (Nat.lt_of_lt_of_le (hO2.lt 0) h.1.size)).trans h.2.2.2.2.1, (hb.cell (p := ⟨w.heap.size, _, none⟩) (Nat.lt_of_lt_of_le (hO2.lt 0) h.1.size)).trans h.2.2.2.2.2.1, (hb.cell (p := ⟨(w.heap.size + 1), _, none⟩) (Nat.lt_of_lt_of_le hcl h.1.size)).trans h.2.2.2.2.2.2.1, (hb.cell (p := ⟨(w.heap.size + 1), _, none⟩) (Nat.lt_of_lt_of_le hcl h.1.size)).trans h.2.2.2.2.2.2.2.1, (hb.cell (p := ⟨(w.heap.size + 1), _, none⟩) (Nat.lt_of_lt_of_le hcl h.1.size)).trans h.2.2.2.2.2.2.2.2.1, (hb.cell (p := ⟨(w.heap.size + 1), _, none⟩) (Nat.lt_of_lt_of_le hcl h.1.size)).trans h.2.2.2.2.2.2.2.2.2.1, (hb.cell (p := ⟨(w.heap.size + 1), _, none⟩) (Nat.lt_of_lt_of_le hcl h.1.size)).trans h.2.2.2.2.2.2.2.2.2.2⟩
      have hS1 : (Below w1.heap.size w1 w1.drew ∧ w1.drew.cell? ⟨w.heap.size, 0, none⟩ = some (.string x.name) ∧ w1.drew.cell? ⟨w.heap.size, 1, none⟩ = some (.string x.text) ∧ w1.drew.cell? ⟨w.heap.size, 2, none⟩ = some (.int .i64 x.level) ∧ w1.drew.cell? ⟨w.heap.size, 3, none⟩ = some (.slice A1 x.refs.length c1) ∧ w1.drew.cell? ⟨w.heap.size, 4, none⟩ = some (.slice A2 x.envs.length c2) ∧ w1.drew.cell? ⟨(w.heap.size + 1), 0, none⟩ = some (.string o.prj) ∧ w1.drew.cell? ⟨(w.heap.size + 1), 1, none⟩ = some (.string o.ref) ∧ w1.drew.cell? ⟨(w.heap.size + 1), 2, none⟩ = some (.bool o.fork) ∧ w1.drew.cell? ⟨(w.heap.size + 1), 3, none⟩ = some (.int .i64 t) ∧ w1.drew.cell? ⟨(w.heap.size + 1), 33, none⟩ = some (.string env)) := keepS _ _ hS0 ((Below.refl _ _).drew)
      replace keepS := Lib.hid keepS
      clear hS0
      go_upto_region 3 with (fail)
      refine wp_region_held_drew (S := fun w' => Below w1.heap.size w1 w' ∧ w'.cell? ⟨w.heap.size, 0, none⟩ = some (.string x.name) ∧ w'.cell? ⟨w.heap.size, 1, none⟩ = some (.string x.text) ∧ w'.cell? ⟨w.heap.size, 2, none⟩ = some (.int .i64 x.level) ∧ w'.cell? ⟨w.heap.size, 3, none⟩ = some (.slice A1 x.refs.length c1) ∧ w'.cell? ⟨w.heap.size, 4, none⟩ = some (.slice A2 x.envs.length c2) ∧ w'.cell? ⟨(w.heap.size + 1), 0, none⟩ = some (.string o.prj) ∧ w'.cell? ⟨(w.heap.size + 1), 1, none⟩ = some (.string o.ref) ∧ w'.cell? ⟨(w.heap.size + 1), 2, none⟩ = some (.bool o.fork) ∧ w'.cell? ⟨(w.heap.size + 1), 3, none⟩ = some (.int .i64 t) ∧ w'.cell? ⟨(w.heap.size + 1), 33, none⟩ = some (.string env)) (by kernel_rfl) ?_ (fun hHeld => ?_)
      · (try dsimp only)
        exact hS1
      refine tkY 0 (v := ?v68) rfl (.inl ⟨by rfl, ?hy68⟩) ?hr68
      case hy68 => (intro w hSw; (try dsimp only at hSw); go_simp; try with_reducible rfl)
      simp only [Act.put, List.getElem_toArray, List.getElem_cons_zero, List.setIfInBounds_toArray, List.set_cons_zero, List.set_cons_succ]
      refine tkY 1 (v := ?v69) rfl (.inl ⟨by rfl, ?hy69⟩) ?hr69
      case hy69 => (intro w hSw; (try dsimp only at hSw); go_simp; try with_reducible rfl)
      simp only [Act.put, List.getElem_toArray, List.getElem_cons_zero, List.getElem_cons_succ, List.setIfInBounds_toArray, List.set_cons_zero, List.set_cons_succ]
      refine tkY 2 (v := ?v70) rfl (.inl ⟨by rfl, ?hy70⟩) ?hr70
      case hy70 => (intro w hSw; (try dsimp only at hSw); go_simp; try with_reducible rfl)
      simp only [Act.put, List.getElem_toArray, List.getElem_cons_zero, List.getElem_cons_succ, List.setIfInBounds_toArray, List.set_cons_zero, List.set_cons_succ]
      refine tkY 3 (v := ?v71) rfl (.inl ⟨by rfl, ?hy71⟩) ?hr71
      case hy71 => (intro w hSw; (try dsimp only at hSw); go_simp; try with_reducible rfl)
      simp only [Act.put, List.getElem_toArray, List.getElem_cons_zero, List.getElem_cons_succ, List.setIfInBounds_toArray, List.set_cons_zero, List.set_cons_succ]
      refine tkY 4 (v := ?v72) rfl (.inl ⟨by rfl, ?hy72⟩) ?hr72
      case hy72 => (intro w hSw; (try dsimp only at hSw); go_simp; try with_reducible rfl)
      simp only [Act.put, List.getElem_toArray, List.getElem_cons_zero, List.getElem_cons_succ, List.setIfInBounds_toArray, List.set_cons_zero, List.set_cons_succ]
      refine tkY 5 (v := ?v73) rfl (.inl ⟨by rfl, ?hy73⟩) ?hr73
      case hy73 => (intro w hSw; (try dsimp only at hSw); go_simp; try with_reducible rfl)
      simp only [Act.put, List.getElem_toArray, List.getElem_cons_zero, List.getElem_cons_succ, List.setIfInBounds_toArray, List.set_cons_zero, List.set_cons_succ]
      refine tkY 6 (v := ?v74) rfl (.inl ⟨by rfl, ?hy74⟩) ?hr74
      case hy74 => (intro w hSw; (try dsimp only at hSw); go_simp; try with_reducible rfl)
      simp only [Act.put, List.getElem_toArray, List.getElem_cons_zero, List.getElem_cons_succ, List.setIfInBounds_toArray, List.set_cons_zero, List.set_cons_succ]
      refine tkY 7 (v := ?v75) rfl (.inl ⟨by rfl, ?hy75⟩) ?hr75
      case hy75 => (intro w hSw; (try dsimp only at hSw); go_simp; try with_reducible rfl)
      simp only [Act.put, List.getElem_toArray, List.getElem_cons_zero, List.getElem_cons_succ, List.setIfInBounds_toArray, List.set_cons_zero, List.set_cons_succ]
      refine tkY 9 (v := ?v76) rfl (.inl ⟨by rfl, ?hy76⟩) ?hr76
      case hy76 => (intro w hSw; (try dsimp only at hSw); go_simp; try with_reducible rfl)
      simp only [Act.put, List.getElem_toArray, List.getElem_cons_zero, List.getElem_cons_succ, List.setIfInBounds_toArray, List.set_cons_zero, List.set_cons_succ]
      refine tkY 10 (v := ?v77) rfl (.inl ⟨by rfl, ?hy77⟩) ?hr77
      case hy77 => (intro w hSw; (try dsimp only at hSw); go_simp; try with_reducible rfl)
      simp only [Act.put, List.getElem_toArray, List.getElem_cons_zero, List.getElem_cons_succ, List.setIfInBounds_toArray, List.set_cons_zero, List.set_cons_succ]
      refine tkY 11 (v := ?v78) rfl (.inl ⟨by rfl, ?hy78⟩) ?hr78
      case hy78 => (intro w hSw; (try dsimp only at hSw); go_simp; try with_reducible rfl)
      simp only [Act.put, List.getElem_toArray, List.getElem_cons_zero, List.getElem_cons_succ, List.setIfInBounds_toArray, List.set_cons_zero, List.set_cons_succ]
      refine tkY 12 (v := ?v79) rfl (.inl ⟨by rfl, ?hy79⟩) ?hr79
      case hy79 => (intro w hSw; (try dsimp only at hSw); go_simp; try with_reducible rfl)
      simp only [Act.put, List.getElem_toArray, List.getElem_cons_zero, List.getElem_cons_succ, List.setIfInBounds_toArray, List.set_cons_zero, List.set_cons_succ]
      refine tkY 13 (v := ?v80) rfl (.inl ⟨by rfl, ?hy80⟩) ?hr80
      case hy80 => (intro w hSw; (try dsimp only at hSw); go_simp; try with_reducible rfl)
      simp only [Act.put, List.getElem_toArray, List.getElem_cons_zero, List.getElem_cons_succ, List.setIfInBounds_toArray, List.set_cons_zero, List.set_cons_succ]
      refine tkY 14 (v := ?v81) rfl (.inl ⟨by rfl, ?hy81⟩) ?hr81
      case hy81 => (intro w hSw; (try dsimp only at hSw); go_simp; try with_reducible rfl)
      simp only [Act.put, List.getElem_toArray, List.getElem_cons_zero, List.getElem_cons_succ, List.setIfInBounds_toArray, List.set_cons_zero, List.set_cons_succ]
      refine tkY 15 (v := ?v82) rfl (.inl ⟨by rfl, ?hy82⟩) ?hr82
      case hy82 => (intro w hSw; (try dsimp only at hSw); go_simp; try with_reducible rfl)
      simp only [Act.put, List.getElem_toArray, List.getElem_cons_zero, List.getElem_cons_succ, List.setIfInBounds_toArray, List.set_cons_zero, List.set_cons_succ]
      refine tkY 16 (v := ?v83) rfl (.inl ⟨by rfl, ?hy83⟩) ?hr83
      case hy83 => (intro w hSw; (try dsimp only at hSw); go_simp; try with_reducible rfl)
      simp only [Act.put, List.getElem_toArray, List.getElem_cons_zero, List.getElem_cons_succ, List.setIfInBounds_toArray, List.set_cons_zero, List.set_cons_succ]
      refine wpAnyH_ready (rs := [8]) (by kernel_rfl) (by simp) ?_
      refine AllReadyH.cons rfl (fun K hK => ?_) AllReadyH.nil
      go_simp
      go_at_call 18
      refine (CM.out _ hHeld.1).mono ?_
      rintro e r8 ⟨rfl, hbq⟩
      dsimp only
      refine hK.out _ _ ?_ (fun hHeld => ?_)
      · (try dsimp only)
        exact keepS.out _ _ hHeld hbq
      clear hK K
      try simp only [Act.put, List.getElem_toArray, List.getElem_cons_zero, List.getElem_cons_succ, List.setIfInBounds_toArray, List.set_cons_zero, List.set_cons_succ]
      refine wpAnyH_ready (rs := [17]) (by kernel_rfl) (by simp) ?_
      refine AllReadyH.cons rfl (fun K hK => ?_) AllReadyH.nil
      go_simp
      go_at_call 19
      refine (CR.out _ hHeld.1).mono ?_
      rintro e r17 ⟨rfl, hbq⟩
      dsimp only
      refine hK.out _ _ ?_ (fun hHeld => ?_)
      · (try dsimp only)
        exact keepS.out _ _ hHeld hbq
      clear hK K
      try simp only [Act.put, List.getElem_toArray, List.getElem_cons_zero, List.getElem_cons_succ, List.setIfInBounds_toArray, List.set_cons_zero, List.set_cons_succ]
      refine tkY 18 (v := ?v84) rfl (.inl ⟨by rfl, ?hy84⟩) ?hr84
      case hy84 => (intro w hSw; (try dsimp only at hSw); go_simp; try with_reducible rfl)
      simp only [Act.put, List.getElem_toArray, List.getElem_cons_zero, List.getElem_cons_succ, List.setIfInBounds_toArray, List.set_cons_zero, List.set_cons_succ]
      refine tkY 19 (v := ?v85) rfl (.inl ⟨by rfl, ?hy85⟩) ?hr85
      case hy85 => (intro w hSw; (try dsimp only at hSw); go_simp; try with_reducible rfl)
      simp only [Act.put, List.getElem_toArray, List.getElem_cons_zero, List.getElem_cons_succ, List.setIfInBounds_toArray, List.set_cons_zero, List.set_cons_succ]
      refine wpAnyH_ready (rs := [20]) (by kernel_rfl) (by simp) ?_
      refine AllReadyH.cons rfl (fun K hK => ?_) AllReadyH.nil
      go_simp
      go_at_call 10
      refine (lives_any _).mono ?_
      rintro e rL ⟨rfl, hbq⟩
      dsimp only
      refine hK.out _ _ ?_ (fun hHeld => ?_)
      · (try dsimp only)
        exact keepS.out _ _ hHeld hbq
      clear hK K
      try simp only [Act.put, List.getElem_toArray, List.getElem_cons_zero, List.getElem_cons_succ, List.setIfInBounds_toArray, List.set_cons_zero, List.set_cons_succ]
      refine tkY 21 (v := ?v86) rfl (.inl ⟨by rfl, ?hy86⟩) ?hr86
      case hy86 => (intro w hSw; (try dsimp only at hSw); go_simp; try with_reducible rfl)
      simp only [Act.put, List.getElem_toArray, List.getElem_cons_zero, List.getElem_cons_succ, List.setIfInBounds_toArray, List.set_cons_zero, List.set_cons_succ]
      refine tkY 22 (v := ?v87) rfl (.inl ⟨by rfl, ?hy87⟩) ?hr87
      case hy87 => (intro w hSw; (try dsimp only at hSw); go_simp; try with_reducible rfl)
      simp only [Act.put, List.getElem_toArray, List.getElem_cons_zero, List.getElem_cons_succ, List.setIfInBounds_toArray, List.set_cons_zero, List.set_cons_succ]
      refine wpAnyH_done (by kernel_rfl) ?_ _
      have hbW := hHeld.1
      clear hHeld hS1 keepS
      have hbf := hbw.trans (hbW.mono hbw.size)
      repeat' ((fail_if_success at_builtin); (first | go_skip | go_guarded | go_step))
      go_ret
      exact ⟨rfl, hbf⟩
    | true =>
      have hS0 : (Below w1.heap.size w1 w1 ∧ w1.cell? ⟨w.heap.size, 0, none⟩ = some (.string x.name) ∧ w1.cell? ⟨w.heap.size, 1, none⟩ = some (.string x.text) ∧ w1.cell? ⟨w.heap.size, 2, none⟩ = some (.int .i64 x.level) ∧ w1.cell? ⟨w.heap.size, 3, none⟩ = some (.slice A1 x.refs.length c1) ∧ w1.cell? ⟨w.heap.size, 4, none⟩ = some (.slice A2 x.envs.length c2) ∧ w1.cell? ⟨(w.heap.size + 1), 0, none⟩ = some (.string o.prj) ∧ w1.cell? ⟨(w.heap.size + 1), 1, none⟩ = some (.string o.ref) ∧ w1.cell? ⟨(w.heap.size + 1), 2, none⟩ = some (.bool o.fork) ∧ w1.cell? ⟨(w.heap.size + 1), 3, none⟩ = some (.int .i64 t) ∧ w1.cell? ⟨(w.heap.size + 1), 33, none⟩ = some (.string env)) := ⟨Below.refl _ _, c0_0, c0_1, c0_2, c0_3, c0_4, y0, y1, y2, y3, y33⟩
      have keepS : ∀ v1 v2 : World, (Below w1.heap.size w1 v1 ∧ v1.cell? ⟨w.heap.size, 0, none⟩ = some (.string x.name) ∧ v1.cell? ⟨w.heap.size, 1, none⟩ = some (.string x.text) ∧ v1.cell? ⟨w.heap.size, 2, none⟩ = some (.int .i64 x.level) ∧ v1.cell? ⟨w.heap.size, 3, none⟩ = some (.slice A1 x.refs.length c1) ∧ v1.cell? ⟨w.heap.size, 4, none⟩ = some (.slice A2 x.envs.length c2) ∧ v1.cell? ⟨(w.heap.size + 1), 0, none⟩ = some (.string o.prj) ∧ v1.cell? ⟨(w.heap.size + 1), 1, none⟩ = some (.string o.ref) ∧ v1.cell? ⟨(w.heap.size + 1), 2, none⟩ = some (.bool o.fork) ∧ v1.cell? ⟨(w.heap.size + 1), 3, none⟩ = some (.int .i64 t) ∧ v1.cell? ⟨(w.heap.size + 1), 33, none⟩ = some (.string env)) → Below v1.heap.size v1 v2 → (Below w1.heap.size w1 v2 ∧ v2.cell? ⟨w.heap.size, 0, none⟩ = some (.string x.name) ∧ v2.cell? ⟨w.heap.size, 1, none⟩ = some (.string x.text) ∧ v2.cell? ⟨w.heap.size, 2, none⟩ = some (.int .i64 x.level) ∧ v2.cell? ⟨w.heap.size, 3, none⟩ = some (.slice A1 x.refs.length c1) ∧ v2.cell? ⟨w.heap.size, 4, none⟩ = some (.slice A2 x.envs.length c2) ∧ v2.cell? ⟨(w.heap.size + 1), 0, none⟩ = some (.string o.prj) ∧ v2.cell? ⟨(w.heap.size + 1), 1, none⟩ = some (.string o.ref) ∧ v2.cell? ⟨(w.heap.size + 1), 2, none⟩ = some (.bool o.fork) ∧ v2.cell? ⟨(w.heap.size + 1), 3, none⟩ = some (.int .i64 t) ∧ v2.cell? ⟨(w.heap.size + 1), 33, none⟩ = some (.string env)) := fun v1 v2 h hb => ⟨h.1.trans (hb.mono h.1.size), (hb.cell (p := ⟨w.heap.size, _, none⟩) (Nat.lt_of_lt_of_le (hO2.lt 0) h.1.size)).trans h.2.1, (hb.cell (p := ⟨w.heap.size, _, none⟩) (Nat.lt_of_lt_of_le (hO2.lt 0) h.1.size)).trans h.2.2.1, (hb.cell (p := ⟨w.heap.size, _, none⟩) (Nat.lt_of_lt_of_le (hO2.lt 0) h.1.size)).trans h.2.2.2.1, (hb.cell (p := ⟨w.heap.size, _, none⟩) (Nat.lt_of_lt_of_le (hO2.lt 0) h.1.size)).trans h.2.2.2.2.1, (hb.cell (p := ⟨w.heap.size, _, none⟩) (Nat.lt_of_lt_of_le (hO2.lt 0) h.1.size)).trans h.2.2.2.2.2.1, (hb.cell (p := ⟨(w.heap.size + 1), _, none⟩) (Nat.lt_of_lt_of_le hcl h.1.size)).trans h.2.2.2.2.2.2.1, (hb.cell (p := ⟨(w.heap.size + 1), _, none⟩) (Nat.lt_of_lt_of_le hcl h.1.size)).trans h.2.2.2.2.2.2.2.1, (hb.cell (p := ⟨(w.heap.size + 1), _, none⟩) (Nat.lt_of_lt_of_le hcl h.1.size)).trans h.2.2.2.2.2.2.2.2.1, (hb.cell (p := ⟨(w.heap.size + 1), _, none⟩) (Nat.lt_of_lt_of_le hcl h.1.size)).trans h.2.2.2.2.2.2.2.2.2.1, (hb.cell (p := ⟨(w.heap.size + 1), _, none⟩) (Nat.lt_of_lt_of_le hcl h.1.size)).trans h.2.2.2.2.2.2.2.2.2.2⟩
      have hS1 : (Below w1.heap.size w1 w1.drew ∧ w1.drew.cell? ⟨w.heap.size, 0, none⟩ = some (.string x.name) ∧ w1.drew.cell? ⟨w.heap.size, 1, none⟩ = some (.string x.text) ∧ w1.drew.cell? ⟨w.heap.size, 2, none⟩ = some (.int .i64 x.level) ∧ w1.drew.cell? ⟨w.heap.size, 3, none⟩ = some (.slice A1 x.refs.length c1) ∧ w1.drew.cell? ⟨w.heap.size, 4, none⟩ = some (.slice A2 x.envs.length c2) ∧ w1.drew.cell? ⟨(w.heap.size + 1), 0, none⟩ = some (.string o.prj) ∧ w1.drew.cell? ⟨(w.heap.size + 1), 1, none⟩ = some (.string o.ref) ∧ w1.drew.cell? ⟨(w.heap.size + 1), 2, none⟩ = some (.bool o.fork) ∧ w1.drew.cell? ⟨(w.heap.size + 1), 3, none⟩ = some (.int .i64 t) ∧ w1.drew.cell? ⟨(w.heap.size + 1), 33, none⟩ = some (.string env)) := keepS _ _ hS0 ((Below.refl _ _).drew)
      replace keepS := Lib.hid keepS
      clear hS0
      go_upto_region 3 with (fail)
      refine wp_region_held_drew (S := fun w' => Below w1.heap.size w1 w' ∧ w'.cell? ⟨w.heap.size, 0, none⟩ = some (.string x.name) ∧ w'.cell? ⟨w.heap.size, 1, none⟩ = some (.string x.text) ∧ w'.cell? ⟨w.heap.size, 2, none⟩ = some (.int .i64 x.level) ∧ w'.cell? ⟨w.heap.size, 3, none⟩ = some (.slice A1 x.refs.length c1) ∧ w'.cell? ⟨w.heap.size, 4, none⟩ = some (.slice A2 x.envs.length c2) ∧ w'.cell? ⟨(w.heap.size + 1), 0, none⟩ = some (.string o.prj) ∧ w'.cell? ⟨(w.heap.size + 1), 1, none⟩ = some (.string o.ref) ∧ w'.cell? ⟨(w.heap.size + 1), 2, none⟩ = some (.bool o.fork) ∧ w'.cell? ⟨(w.heap.size + 1), 3, none⟩ = some (.int .i64 t) ∧ w'.cell? ⟨(w.heap.size + 1), 33, none⟩ = some (.string env)) (by kernel_rfl) ?_ (fun hHeld => ?_)
      · (try dsimp only)
        exact hS1
      refine tkY 0 (v := ?v88) rfl (.inl ⟨by rfl, ?hy88⟩) ?hr88
      case hy88 => (intro w hSw; (try dsimp only at hSw); go_simp; try with_reducible rfl)
      simp only [Act.put, List.getElem_toArray, List.getElem_cons_zero, List.setIfInBounds_toArray, List.set_cons_zero, List.set_cons_succ]
      refine tkY 1 (v := ?v89) rfl (.inl ⟨by rfl, ?hy89⟩) ?hr89
      case hy89 => (intro w hSw; (try dsimp only at hSw); go_simp; try with_reducible rfl)
      simp only [Act.put, List.getElem_toArray, List.getElem_cons_zero, List.getElem_cons_succ, List.setIfInBounds_toArray, List.set_cons_zero, List.set_cons_succ]
      refine tkY 2 (v := ?v90) rfl (.inl ⟨by rfl, ?hy90⟩) ?hr90
      case hy90 => (intro w hSw; (try dsimp only at hSw); go_simp; try with_reducible rfl)
      simp only [Act.put, List.getElem_toArray, List.getElem_cons_zero, List.getElem_cons_succ, List.setIfInBounds_toArray, List.set_cons_zero, List.set_cons_succ]
      refine tkY 3 (v := ?v91) rfl (.inl ⟨by rfl, ?hy91⟩) ?hr91
      case hy91 => (intro w hSw; (try dsimp only at hSw); go_simp; try with_reducible rfl)
      simp only [Act.put, List.getElem_toArray, List.getElem_cons_zero, List.getElem_cons_succ, List.setIfInBounds_toArray, List.set_cons_zero, List.set_cons_succ]
      refine tkY 4 (v := ?v92) rfl (.inl ⟨by rfl, ?hy92⟩) ?hr92
      case hy92 => (intro w hSw; (try dsimp only at hSw); go_simp; try with_reducible rfl)
      simp only [Act.put, List.getElem_toArray, List.getElem_cons_zero, List.getElem_cons_succ, List.setIfInBounds_toArray, List.set_cons_zero, List.set_cons_succ]
      refine tkY 5 (v := ?v93) rfl (.inl ⟨by rfl, ?hy93⟩) ?hr93
      case hy93 => (intro w hSw; (try dsimp only at hSw); go_simp; try with_reducible rfl)
      simp only [Act.put, List.getElem_toArray, List.getElem_cons_zero, List.getElem_cons_succ, List.setIfInBounds_toArray, List.set_cons_zero, List.set_cons_succ]
      refine tkY 6 (v := ?v94) rfl (.inl ⟨by rfl, ?hy94⟩) ?hr94
      case hy94 => (intro w hSw; (try dsimp only at hSw); go_simp; try with_reducible rfl)
      simp only [Act.put, List.getElem_toArray, List.getElem_cons_zero, List.getElem_cons_succ, List.setIfInBounds_toArray, List.set_cons_zero, List.set_cons_succ]
      refine tkY 7 (v := ?v95) rfl (.inl ⟨by rfl, ?hy95⟩) ?hr95
      case hy95 => (intro w hSw; (try dsimp only at hSw); go_simp; try with_reducible rfl)
      simp only [Act.put, List.getElem_toArray, List.getElem_cons_zero, List.getElem_cons_succ, List.setIfInBounds_toArray, List.set_cons_zero, List.set_cons_succ]
      refine tkY 9 (v := ?v96) rfl (.inl ⟨by rfl, ?hy96⟩) ?hr96
      case hy96 => (intro w hSw; (try dsimp only at hSw); go_simp; try with_reducible rfl)
      simp only [Act.put, List.getElem_toArray, List.getElem_cons_zero, List.getElem_cons_succ, List.setIfInBounds_toArray, List.set_cons_zero, List.set_cons_succ]
      refine tkY 10 (v := ?v97) rfl (.inl ⟨by rfl, ?hy97⟩) ?hr97
      case hy97 => (intro w hSw; (try dsimp only at hSw); go_simp; try with_reducible rfl)
      simp only [Act.put, List.getElem_toArray, List.getElem_cons_zero, List.getElem_cons_succ, List.setIfInBounds_toArray, List.set_cons_zero, List.set_cons_succ]
      refine tkY 11 (v := ?v98) rfl (.inl ⟨by rfl, ?hy98⟩) ?hr98
      case hy98 => (intro w hSw; (try dsimp only at hSw); go_simp; try with_reducible rfl)
      simp only [Act.put, List.getElem_toArray, List.getElem_cons_zero, List.getElem_cons_succ, List.setIfInBounds_toArray, List.set_cons_zero, List.set_cons_succ]
      refine tkY 12 (v := ?v99) rfl (.inl ⟨by rfl, ?hy99⟩) ?hr99
      case hy99 => (intro w hSw; (try dsimp only at hSw); go_simp; try with_reducible rfl)
      simp only [Act.put, List.getElem_toArray, List.getElem_cons_zero, List.getElem_cons_succ, List.setIfInBounds_toArray, List.set_cons_zero, List.set_cons_succ]
      refine tkY 13 (v := ?v100) rfl (.inl ⟨by rfl, ?hy100⟩) ?hr100
      case hy100 => (intro w hSw; (try dsimp only at hSw); go_simp; try with_reducible rfl)
      simp only [Act.put, List.getElem_toArray, List.getElem_cons_zero, List.getElem_cons_succ, List.setIfInBounds_toArray, List.set_cons_zero, List.set_cons_succ]
      refine tkY 14 (v := ?v101) rfl (.inl ⟨by rfl, ?hy101⟩) ?hr101
      case hy101 => (intro w hSw; (try dsimp only at hSw); go_simp; try with_reducible rfl)
      simp only [Act.put, List.getElem_toArray, List.getElem_cons_zero, List.getElem_cons_succ, List.setIfInBounds_toArray, List.set_cons_zero, List.set_cons_succ]
      refine tkY 15 (v := ?v102) rfl (.inl ⟨by rfl, ?hy102⟩) ?hr102
      case hy102 => (intro w hSw; (try dsimp only at hSw); go_simp; try with_reducible rfl)
      simp only [Act.put, List.getElem_toArray, List.getElem_cons_zero, List.getElem_cons_succ, List.setIfInBounds_toArray, List.set_cons_zero, List.set_cons_succ]
      refine tkY 16 (v := ?v103) rfl (.inl ⟨by rfl, ?hy103⟩) ?hr103
      case hy103 => (intro w hSw; (try dsimp only at hSw); go_simp; try with_reducible rfl)
      simp only [Act.put, List.getElem_toArray, List.getElem_cons_zero, List.getElem_cons_succ, List.setIfInBounds_toArray, List.set_cons_zero, List.set_cons_succ]
      refine wpAnyH_ready (rs := [8]) (by kernel_rfl) (by simp) ?_
      refine AllReadyH.cons rfl (fun K hK => ?_) AllReadyH.nil
      go_simp
      go_at_call 18
      refine (CM.out _ hHeld.1).mono ?_
      rintro e r8 ⟨rfl, hbq⟩
      dsimp only
      refine hK.out _ _ ?_ (fun hHeld => ?_)
      · (try dsimp only)
        exact keepS.out _ _ hHeld hbq
      clear hK K
      try simp only [Act.put, List.getElem_toArray, List.getElem_cons_zero, List.getElem_cons_succ, List.setIfInBounds_toArray, List.set_cons_zero, List.set_cons_succ]
      refine wpAnyH_ready (rs := [17]) (by kernel_rfl) (by simp) ?_
      refine AllReadyH.cons rfl (fun K hK => ?_) AllReadyH.nil
      go_simp
      go_at_call 19
      refine (CR.out _ hHeld.1).mono ?_
      rintro e r17 ⟨rfl, hbq⟩
      dsimp only
      refine hK.out _ _ ?_ (fun hHeld => ?_)
      · (try dsimp only)
        exact keepS.out _ _ hHeld hbq
      clear hK K
      try simp only [Act.put, List.getElem_toArray, List.getElem_cons_zero, List.getElem_cons_succ, List.setIfInBounds_toArray, List.set_cons_zero, List.set_cons_succ]
      refine tkY 18 (v := ?v104) rfl (.inl ⟨by rfl, ?hy104⟩) ?hr104
      case hy104 => (intro w hSw; (try dsimp only at hSw); go_simp; try with_reducible rfl)
      simp only [Act.put, List.getElem_toArray, List.getElem_cons_zero, List.getElem_cons_succ, List.setIfInBounds_toArray, List.set_cons_zero, List.set_cons_succ]
      refine tkY 19 (v := ?v105) rfl (.inl ⟨by rfl, ?hy105⟩) ?hr105
      case hy105 => (intro w hSw; (try dsimp only at hSw); go_simp; try with_reducible rfl)
      simp only [Act.put, List.getElem_toArray, List.getElem_cons_zero, List.getElem_cons_succ, List.setIfInBounds_toArray, List.set_cons_zero, List.set_cons_succ]
      refine wpAnyH_ready (rs := [20]) (by kernel_rfl) (by simp) ?_
      refine AllReadyH.cons rfl (fun K hK => ?_) AllReadyH.nil
      go_simp
      go_at_call 10
      refine (lives_any _).mono ?_
      rintro e rL ⟨rfl, hbq⟩
      dsimp only
      refine hK.out _ _ ?_ (fun hHeld => ?_)
      · (try dsimp only)
        exact keepS.out _ _ hHeld hbq
      clear hK K
      try simp only [Act.put, List.getElem_toArray, List.getElem_cons_zero, List.getElem_cons_succ, List.setIfInBounds_toArray, List.set_cons_zero, List.set_cons_succ]
      refine tkY 21 (v := ?v106) rfl (.inl ⟨by rfl, ?hy106⟩) ?hr106
      case hy106 => (intro w hSw; (try dsimp only at hSw); go_simp; try with_reducible rfl)
      simp only [Act.put, List.getElem_toArray, List.getElem_cons_zero, List.getElem_cons_succ, List.setIfInBounds_toArray, List.set_cons_zero, List.set_cons_succ]
      refine tkY 22 (v := ?v107) rfl (.inl ⟨by rfl, ?hy107⟩) ?hr107
      case hy107 => (intro w hSw; (try dsimp only at hSw); go_simp; try with_reducible rfl)
      simp only [Act.put, List.getElem_toArray, List.getElem_cons_zero, List.getElem_cons_succ, List.setIfInBounds_toArray, List.set_cons_zero, List.set_cons_succ]
      refine wpAnyH_done (by kernel_rfl) ?_ _
      have hbW := hHeld.1
      clear hHeld hS1 keepS
      have hbf := hbw.trans (hbW.mono hbw.size)
      repeat' ((fail_if_success at_builtin); (first | go_skip | go_guarded | go_step))
      go_ret
      exact ⟨rfl, hbf⟩
theorem secW_refs {x : Sec} (h : SecW x) {n : Nat} (hn : n ≤ 1000000) : SecW { x with refs := List.replicate n ⟨#[]⟩ } :=
  ⟨h.name, h.text, by simpa using hn, h.envs, fun s hs => by
    obtain ⟨_, rfl⟩ := List.mem_replicate.1 hs
    decide, h.enve⟩
set_option maxRecDepth 100000 in
set_option maxHeartbeats 6000000 in
theorem valid_law (x : Sec) (A1 : Option Addr) (c1 : Nat) (A2 : Option Addr) (c2 : Nat) (n : Nat) (w : World) (h1 : StrsR w (fun b => b < w.heap.size) A1 c1 x.refs) (h2 : StrsR w (fun b => b < w.heap.size) A2 c2 x.envs) (hx : SecB x) (hn : n < 65536) :
    Calls Tryd.prog 3 #[.agg #[.string x.name, .string x.text, .int .i64 x.level, .slice A1 x.refs.length c1, .slice A2 x.envs.length c2], .int .u16 (n : Int)] w fun e w' => e = .returned (.bool true) ∧ Below w.heap.size w w' := by
  go_enter Tryd.func3, Tryd.ntmps3
  go_upto_region 1 with (fail)
  generalize hx_ : World.alloc w _ = wo1
  have hO1 : OwnB w wo1 [(w.heap.size, [.string x.name, .string x.text, .int .i64 x.level, .slice A1 x.refs.length c1, .slice A2 x.envs.length c2])] := by rw [← hx_]; exact (OwnB.refl w).new #[.string x.name, .string x.text, .int .i64 x.level, .slice A1 x.refs.length c1, .slice A2 x.envs.length c2] _ (g := w.heap.size)
  have hbn : Below w.heap.size w wo1 := by rw [← hx_]; exact (Below.refl _ _).alloc (Nat.le_refl _) _
  have zwo1 : w.heap.size + 0 < wo1.heap.size := by rw [← hx_]; simp <;> omega
  clear hx_
  have c0_0 : wo1.cell? ⟨w.heap.size, 0, none⟩ = some (.string x.name) := hO1.c 0 0
  have c0_1 : wo1.cell? ⟨w.heap.size, 1, none⟩ = some (.string x.text) := hO1.c 0 1
  have c0_2 : wo1.cell? ⟨w.heap.size, 2, none⟩ = some (.int .i64 x.level) := hO1.c 0 2
  have c0_3 : wo1.cell? ⟨w.heap.size, 3, none⟩ = some (.slice A1 x.refs.length c1) := hO1.c 0 3
  have c0_4 : wo1.cell? ⟨w.heap.size, 4, none⟩ = some (.slice A2 x.envs.length c2) := hO1.c 0 4
  have cf0 := hO1.fr 0
  clear hbn
  have hbz := hO1.below
  have hbv := (Below.refl wo1.heap.size wo1).alloc (Nat.le_refl _) (.cells #[.string x.name, .string x.text, .int .i64 x.level, .slice A1 x.refs.length c1, .slice A2 x.envs.length c2] secT)
  have hbw0 := hbz.trans (hbv.mono hbz.size)
  have C := small_any [x] (some ⟨wo1.heap.size, 0, none⟩) 1 1 (wo1.alloc (.cells #[.string x.name, .string x.text, .int .i64 x.level, .slice A1 x.refs.length c1, .slice A2 x.envs.length c2] secT)) (secsB_one (CellsAt.new wo1 #[.string x.name, .string x.text, .int .i64 x.level, .slice A1 x.refs.length c1, .slice A2 x.envs.length c2] secT) (h1.upB hbw0) (h2.upB hbw0) hx)
  replace C := Lib.hid C
  repeat' ((fail_if_success at_builtin); (first | go_skip | go_guarded | go_step))
  refine C.out.mono ?_
  clear C
  rintro e w1 ⟨rfl, hw1⟩
  dsimp only
  have hb1 : Below wo1.heap.size wo1 w1 := by rw [hw1]; exact hbv
  clear hbv hbw0 hw1
  have zw1 := hb1.size
  have hO2 : OwnB w w1 [(w.heap.size, [.string x.name, .string x.text, .int .i64 x.level, .slice A1 x.refs.length c1, .slice A2 x.envs.length c2])] := hO1.kept hb1
  clear c0_0 c0_1 c0_2 c0_3 c0_4 cf0 hO1
  have c0_0 : w1.cell? ⟨w.heap.size, 0, none⟩ = some (.string x.name) := hO2.c 0 0
  have c0_1 : w1.cell? ⟨w.heap.size, 1, none⟩ = some (.string x.text) := hO2.c 0 1
  have c0_2 : w1.cell? ⟨w.heap.size, 2, none⟩ = some (.int .i64 x.level) := hO2.c 0 2
  have c0_3 : w1.cell? ⟨w.heap.size, 3, none⟩ = some (.slice A1 x.refs.length c1) := hO2.c 0 3
  have c0_4 : w1.cell? ⟨w.heap.size, 4, none⟩ = some (.slice A2 x.envs.length c2) := hO2.c 0 4
  have cf0 := hO2.fr 0
  have hbw := hO2.below
  cases hs : smallL [x] with
  | false =>
    repeat' ((fail_if_success at_builtin); (first | go_skip | go_guarded | go_step))
    refine (lives_any _).mono ?_
    rintro e wl ⟨rfl, hbl⟩
    dsimp only
    have hbf := hbw.trans (hbl.mono hbw.size)
    repeat' ((fail_if_success at_builtin); (first | go_skip | go_guarded | go_step))
    go_ret
    exact ⟨rfl, hbf⟩
  | true =>
    have hw := small_one hs
    clear hs
    by_cases n1 : 1000 < n
    · have n1' : (1000 : Int) < (n : Int) := by omega
      by_cases n2 : n < 1100
      · have n2' : (n : Int) < 1100 := by omega
        go_upto_region 4 with (fail)
        generalize hx_ : World.alloc w1 _ = wo3
        have hO3 : OwnB w wo3 [(w1.heap.size, [.string x.name, .string x.text, .int .i64 x.level, .slice A1 x.refs.length c1, .slice A2 x.envs.length c2]), (w.heap.size, [.string x.name, .string x.text, .int .i64 x.level, .slice A1 x.refs.length c1, .slice A2 x.envs.length c2])] := by rw [← hx_]; exact hO2.new #[.string x.name, .string x.text, .int .i64 x.level, .slice A1 x.refs.length c1, .slice A2 x.envs.length c2] _ (g := w1.heap.size)
        have hbn : Below w1.heap.size w1 wo3 := by rw [← hx_]; exact (Below.refl _ _).alloc (Nat.le_refl _) _
        have zwo3 : w1.heap.size + 0 < wo3.heap.size := by rw [← hx_]; simp <;> omega
        clear hx_ c0_0 c0_1 c0_2 c0_3 c0_4 cf0 hO2
        have c0_0 : wo3.cell? ⟨w1.heap.size, 0, none⟩ = some (.string x.name) := hO3.c 0 0
        have c0_1 : wo3.cell? ⟨w1.heap.size, 1, none⟩ = some (.string x.text) := hO3.c 0 1
        have c0_2 : wo3.cell? ⟨w1.heap.size, 2, none⟩ = some (.int .i64 x.level) := hO3.c 0 2
        have c0_3 : wo3.cell? ⟨w1.heap.size, 3, none⟩ = some (.slice A1 x.refs.length c1) := hO3.c 0 3
        have c0_4 : wo3.cell? ⟨w1.heap.size, 4, none⟩ = some (.slice A2 x.envs.length c2) := hO3.c 0 4
        have cf0 := hO3.fr 0
        have c1_0 : wo3.cell? ⟨w.heap.size, 0, none⟩ = some (.string x.name) := hO3.c 1 0
        have c1_1 : wo3.cell? ⟨w.heap.size, 1, none⟩ = some (.string x.text) := hO3.c 1 1
        have c1_2 : wo3.cell? ⟨w.heap.size, 2, none⟩ = some (.int .i64 x.level) := hO3.c 1 2
        have c1_3 : wo3.cell? ⟨w.heap.size, 3, none⟩ = some (.slice A1 x.refs.length c1) := hO3.c 1 3
        have c1_4 : wo3.cell? ⟨w.heap.size, 4, none⟩ = some (.slice A2 x.envs.length c2) := hO3.c 1 4
        have cf1 := hO3.fr 1
        clear hbn
        have hmk : ∀ w : World, (Instr.makeSlice 22 (.int .u16 (n : Int)) (.int .u16 (n : Int))).run Tryd.prog w = .ok (.slice (some ⟨w.heap.size, 0, none⟩) n n) (w.alloc (.cells (madeCells #[.string ⟨#[]⟩] n) 9)) := by
          intro w
          have := run_make_row' (P := Tryd.prog) 22 9 (.string ⟨#[]⟩) 16 Tryd.underlying22 str_infoS rfl .u16 .u16 n (by omega) (by omega) w
          simpa using this
        replace hmk := Lib.hid hmk
        repeat' ((fail_if_success at_builtin); (first | go_skip | go_guarded | go_step))
        rw [hmk.out]
        simp only [Result.andThen, Oper.upon]
        have hrd0 := made_strs wo3 n
        have hbm := (Below.refl wo3.heap.size wo3).alloc (Nat.le_refl _) (.cells (madeCells #[.string ⟨#[]⟩] n) 9)
        have zm : wo3.heap.size < (wo3.alloc (.cells (madeCells #[.string ⟨#[]⟩] n) 9)).heap.size := by simp
        generalize World.alloc wo3 _ = wm at *
        have zwm := hbm.size
        have hO4 : OwnB w wm [(w1.heap.size, [.string x.name, .string x.text, .int .i64 x.level, .slice A1 x.refs.length c1, .slice A2 x.envs.length c2]), (w.heap.size, [.string x.name, .string x.text, .int .i64 x.level, .slice A1 x.refs.length c1, .slice A2 x.envs.length c2])] := hO3.kept hbm
        clear c0_0 c0_1 c0_2 c0_3 c0_4 cf0 c1_0 c1_1 c1_2 c1_3 c1_4 cf1 hO3
        have c0_0 : wm.cell? ⟨w1.heap.size, 0, none⟩ = some (.string x.name) := hO4.c 0 0
        have c0_1 : wm.cell? ⟨w1.heap.size, 1, none⟩ = some (.string x.text) := hO4.c 0 1
        have c0_2 : wm.cell? ⟨w1.heap.size, 2, none⟩ = some (.int .i64 x.level) := hO4.c 0 2
        have c0_3 : wm.cell? ⟨w1.heap.size, 3, none⟩ = some (.slice A1 x.refs.length c1) := hO4.c 0 3
        have c0_4 : wm.cell? ⟨w1.heap.size, 4, none⟩ = some (.slice A2 x.envs.length c2) := hO4.c 0 4
        have cf0 := hO4.fr 0
        have c1_0 : wm.cell? ⟨w.heap.size, 0, none⟩ = some (.string x.name) := hO4.c 1 0
        have c1_1 : wm.cell? ⟨w.heap.size, 1, none⟩ = some (.string x.text) := hO4.c 1 1
        have c1_2 : wm.cell? ⟨w.heap.size, 2, none⟩ = some (.int .i64 x.level) := hO4.c 1 2
        have c1_3 : wm.cell? ⟨w.heap.size, 3, none⟩ = some (.slice A1 x.refs.length c1) := hO4.c 1 3
        have c1_4 : wm.cell? ⟨w.heap.size, 4, none⟩ = some (.slice A2 x.envs.length c2) := hO4.c 1 4
        have cf1 := hO4.fr 1
        go_upto_region 6 with (fail)
        generalize hx_ : World.setCell _ _ _ = wo5
        have hO5 : OwnB w wo5 [(w1.heap.size, [.string x.name, .string x.text, .int .i64 x.level, .slice (some ⟨wo3.heap.size, 0, none⟩) n n, .slice A2 x.envs.length c2]), (w.heap.size, [.string x.name, .string x.text, .int .i64 x.level, .slice A1 x.refs.length c1, .slice A2 x.envs.length c2])] := by rw [← hx_]; exact hO4.store 0 rfl 3 _
        have zwo5 : wo5.heap.size = wm.heap.size := by rw [← hx_]; simp [World.setCell]
        replace hrd0 : StrsR wo5 (Lo wo3.heap.size wo5) (some ⟨wo3.heap.size, 0, none⟩) n (List.replicate n ⟨#[]⟩) := by rw [← hx_]; exact hrd0.st (by simp only; omega) _
        clear hx_ c0_0 c0_1 c0_2 c0_3 c0_4 cf0 c1_0 c1_1 c1_2 c1_3 c1_4 cf1 hO4
        have c0_0 : wo5.cell? ⟨w1.heap.size, 0, none⟩ = some (.string x.name) := hO5.c 0 0
        have c0_1 : wo5.cell? ⟨w1.heap.size, 1, none⟩ = some (.string x.text) := hO5.c 0 1
        have c0_2 : wo5.cell? ⟨w1.heap.size, 2, none⟩ = some (.int .i64 x.level) := hO5.c 0 2
        have c0_3 : wo5.cell? ⟨w1.heap.size, 3, none⟩ = some (.slice (some ⟨wo3.heap.size, 0, none⟩) n n) := hO5.c 0 3
        have c0_4 : wo5.cell? ⟨w1.heap.size, 4, none⟩ = some (.slice A2 x.envs.length c2) := hO5.c 0 4
        have cf0 := hO5.fr 0
        have c1_0 : wo5.cell? ⟨w.heap.size, 0, none⟩ = some (.string x.name) := hO5.c 1 0
        have c1_1 : wo5.cell? ⟨w.heap.size, 1, none⟩ = some (.string x.text) := hO5.c 1 1
        have c1_2 : wo5.cell? ⟨w.heap.size, 2, none⟩ = some (.int .i64 x.level) := hO5.c 1 2
        have c1_3 : wo5.cell? ⟨w.heap.size, 3, none⟩ = some (.slice A1 x.refs.length c1) := hO5.c 1 3
        have c1_4 : wo5.cell? ⟨w.heap.size, 4, none⟩ = some (.slice A2 x.envs.length c2) := hO5.c 1 4
        have cf1 := hO5.fr 1
        have hln : (List.replicate n (⟨#[]⟩ : ByteArray)).length = n := List.length_replicate
        have hrdx : StrsR wo5 (fun b => b < wo5.heap.size) (some ⟨wo3.heap.size, 0, none⟩) n (List.replicate n ⟨#[]⟩) := hrd0.imp (fun b hb => hb.2)
        clear hrd0 hmk
        have hbx := hO5.below
        have CV := fun v (hv : Below wo5.heap.size wo5 v) => valid_any x A1 c1 A2 c2 v (h1.upB (hbx.trans (hv.mono hbx.size))) (h2.upB (hbx.trans (hv.mono hbx.size))) hw
        have CR := fun v (hv : Below wo5.heap.size wo5 v) => refValid_any x A1 c1 A2 c2 v (h1.upB (hbx.trans (hv.mono hbx.size))) (h2.upB (hbx.trans (hv.mono hbx.size))) hw
        have CV2 := fun v (hv : Below wo5.heap.size wo5 v) => valid_any ({ x with refs := List.replicate n ⟨#[]⟩ }) (some ⟨wo3.heap.size, 0, none⟩) n A2 c2 v (hrdx.upB hv) (h2.upB (hbx.trans (hv.mono hbx.size))) (secW_refs hw (by omega))
        have CR2 := fun v (hv : Below wo5.heap.size wo5 v) => refValid_any ({ x with refs := List.replicate n ⟨#[]⟩ }) (some ⟨wo3.heap.size, 0, none⟩) n A2 c2 v (hrdx.upB hv) (h2.upB (hbx.trans (hv.mono hbx.size))) (secW_refs hw (by omega))
        generalize vE ({ x with refs := List.replicate n ⟨#[]⟩ }) = q2 at CV2 CR2
        generalize vE x = q1 at CV CR
        have g1 : (q1 == q1) = true := by simp
        have g2 : (q2 == q2) = true := by simp
        replace CV := Lib.hid CV
        replace CR := Lib.hid CR
        simp only [List.length_replicate] at CV2 CR2
        replace CV2 := Lib.hid CV2
        replace CR2 := Lib.hid CR2
        have hS0 : (Below wo5.heap.size wo5 wo5 ∧ wo5.cell? ⟨w1.heap.size, 0, none⟩ = some (.string x.name) ∧ wo5.cell? ⟨w1.heap.size, 1, none⟩ = some (.string x.text) ∧ wo5.cell? ⟨w1.heap.size, 2, none⟩ = some (.int .i64 x.level) ∧ wo5.cell? ⟨w1.heap.size, 3, none⟩ = some (.slice (some ⟨wo3.heap.size, 0, none⟩) n n) ∧ wo5.cell? ⟨w1.heap.size, 4, none⟩ = some (.slice A2 x.envs.length c2) ∧ wo5.cell? ⟨w.heap.size, 0, none⟩ = some (.string x.name) ∧ wo5.cell? ⟨w.heap.size, 1, none⟩ = some (.string x.text) ∧ wo5.cell? ⟨w.heap.size, 2, none⟩ = some (.int .i64 x.level) ∧ wo5.cell? ⟨w.heap.size, 3, none⟩ = some (.slice A1 x.refs.length c1) ∧ wo5.cell? ⟨w.heap.size, 4, none⟩ = some (.slice A2 x.envs.length c2)) := ⟨Below.refl _ _, c0_0, c0_1, c0_2, c0_3, c0_4, c1_0, c1_1, c1_2, c1_3, c1_4⟩
        have keepS : ∀ v1 v2 : World, (Below wo5.heap.size wo5 v1 ∧ v1.cell? ⟨w1.heap.size, 0, none⟩ = some (.string x.name) ∧ v1.cell? ⟨w1.heap.size, 1, none⟩ = some (.string x.text) ∧ v1.cell? ⟨w1.heap.size, 2, none⟩ = some (.int .i64 x.level) ∧ v1.cell? ⟨w1.heap.size, 3, none⟩ = some (.slice (some ⟨wo3.heap.size, 0, none⟩) n n) ∧ v1.cell? ⟨w1.heap.size, 4, none⟩ = some (.slice A2 x.envs.length c2) ∧ v1.cell? ⟨w.heap.size, 0, none⟩ = some (.string x.name) ∧ v1.cell? ⟨w.heap.size, 1, none⟩ = some (.string x.text) ∧ v1.cell? ⟨w.heap.size, 2, none⟩ = some (.int .i64 x.level) ∧ v1.cell? ⟨w.heap.size, 3, none⟩ = some (.slice A1 x.refs.length c1) ∧ v1.cell? ⟨w.heap.size, 4, none⟩ = some (.slice A2 x.envs.length c2)) → Below v1.heap.size v1 v2 → (Below wo5.heap.size wo5 v2 ∧ v2.cell? ⟨w1.heap.size, 0, none⟩ = some (.string x.name) ∧ v2.cell? ⟨w1.heap.size, 1, none⟩ = some (.string x.text) ∧ v2.cell? ⟨w1.heap.size, 2, none⟩ = some (.int .i64 x.level) ∧ v2.cell? ⟨w1.heap.size, 3, none⟩ = some (.slice (some ⟨wo3.heap.size, 0, none⟩) n n) ∧ v2.cell? ⟨w1.heap.size, 4, none⟩ = some (.slice A2 x.envs.length c2) ∧ v2.cell? ⟨w.heap.size, 0, none⟩ = some (.string x.name) ∧ v2.cell? ⟨w.heap.size, 1, none⟩ = some (.string x.text) ∧ v2.cell? ⟨w.heap.size, 2, none⟩ = some (.int .i64 x.level) ∧ v2.cell? ⟨w.heap.size, 3, none⟩ = some (.slice A1 x.refs.length c1) ∧ v2.cell? ⟨w.heap.size, 4, none⟩ = some (.slice A2 x.envs.length c2)) := fun v1 v2 h hb => ⟨h.1.trans (hb.mono h.1.size), (hb.cell (p := ⟨w1.heap.size, _, none⟩) (Nat.lt_of_lt_of_le (hO5.lt 0) h.1.size)).trans h.2.1, (hb.cell (p := ⟨w1.heap.size, _, none⟩) (Nat.lt_of_lt_of_le (hO5.lt 0) h.1.size)).trans h.2.2.1, (hb.cell (p := ⟨w1.heap.size, _, none⟩) (Nat.lt_of_lt_of_le (hO5.lt 0) h.1.size)).trans h.2.2.2.1, (hb.cell (p := ⟨w1.heap.size, _, none⟩) (Nat.lt_of_lt_of_le (hO5.lt 0) h.1.size)).trans h.2.2.2.2.1, (hb.cell (p := ⟨w1.heap.size, _, none⟩) (Nat.lt_of_lt_of_le (hO5.lt 0) h.1.size)).trans h.2.2.2.2.2.1, (hb.cell (p := ⟨w.heap.size, _, none⟩) (Nat.lt_of_lt_of_le (hO5.lt 1) h.1.size)).trans h.2.2.2.2.2.2.1, (hb.cell (p := ⟨w.heap.size, _, none⟩) (Nat.lt_of_lt_of_le (hO5.lt 1) h.1.size)).trans h.2.2.2.2.2.2.2.1, (hb.cell (p := ⟨w.heap.size, _, none⟩) (Nat.lt_of_lt_of_le (hO5.lt 1) h.1.size)).trans h.2.2.2.2.2.2.2.2.1, (hb.cell (p := ⟨w.heap.size, _, none⟩) (Nat.lt_of_lt_of_le (hO5.lt 1) h.1.size)).trans h.2.2.2.2.2.2.2.2.2.1, (hb.cell (p := ⟨w.heap.size, _, none⟩) (Nat.lt_of_lt_of_le (hO5.lt 1) h.1.size)).trans h.2.2.2.2.2.2.2.2.2.2⟩
        have hS1 : (Below wo5.heap.size wo5 wo5.drew ∧ wo5.drew.cell? ⟨w1.heap.size, 0, none⟩ = some (.string x.name) ∧ wo5.drew.cell? ⟨w1.heap.size, 1, none⟩ = some (.string x.text) ∧ wo5.drew.cell? ⟨w1.heap.size, 2, none⟩ = some (.int .i64 x.level) ∧ wo5.drew.cell? ⟨w1.heap.size, 3, none⟩ = some (.slice (some ⟨wo3.heap.size, 0, none⟩) n n) ∧ wo5.drew.cell? ⟨w1.heap.size, 4, none⟩ = some (.slice A2 x.envs.length c2) ∧ wo5.drew.cell? ⟨w.heap.size, 0, none⟩ = some (.string x.name) ∧ wo5.drew.cell? ⟨w.heap.size, 1, none⟩ = some (.string x.text) ∧ wo5.drew.cell? ⟨w.heap.size, 2, none⟩ = some (.int .i64 x.level) ∧ wo5.drew.cell? ⟨w.heap.size, 3, none⟩ = some (.slice A1 x.refs.length c1) ∧ wo5.drew.cell? ⟨w.heap.size, 4, none⟩ = some (.slice A2 x.envs.length c2)) := keepS _ _ hS0 ((Below.refl _ _).drew)
        replace keepS := Lib.hid keepS
        clear hS0
        go_upto_region 6 with (fail)
        refine wp_region_held_drew (S := fun w' => Below wo5.heap.size wo5 w' ∧ w'.cell? ⟨w1.heap.size, 0, none⟩ = some (.string x.name) ∧ w'.cell? ⟨w1.heap.size, 1, none⟩ = some (.string x.text) ∧ w'.cell? ⟨w1.heap.size, 2, none⟩ = some (.int .i64 x.level) ∧ w'.cell? ⟨w1.heap.size, 3, none⟩ = some (.slice (some ⟨wo3.heap.size, 0, none⟩) n n) ∧ w'.cell? ⟨w1.heap.size, 4, none⟩ = some (.slice A2 x.envs.length c2) ∧ w'.cell? ⟨w.heap.size, 0, none⟩ = some (.string x.name) ∧ w'.cell? ⟨w.heap.size, 1, none⟩ = some (.string x.text) ∧ w'.cell? ⟨w.heap.size, 2, none⟩ = some (.int .i64 x.level) ∧ w'.cell? ⟨w.heap.size, 3, none⟩ = some (.slice A1 x.refs.length c1) ∧ w'.cell? ⟨w.heap.size, 4, none⟩ = some (.slice A2 x.envs.length c2)) (by kernel_rfl) ?_ (fun hHeld => ?_)
        · (try dsimp only)
          exact hS1
        refine tkY 0 (v := ?v130) rfl (.inl ⟨by rfl, ?hy130⟩) ?hr130
        case hy130 => (intro w hSw; (try dsimp only at hSw); go_simp; try with_reducible rfl)
        simp only [Act.put, List.getElem_toArray, List.getElem_cons_zero, List.setIfInBounds_toArray, List.set_cons_zero, List.set_cons_succ]
        refine tkY 2 (v := ?v131) rfl (.inl ⟨by rfl, ?hy131⟩) ?hr131
        case hy131 => (intro w hSw; (try dsimp only at hSw); go_simp; try with_reducible rfl)
        simp only [Act.put, List.getElem_toArray, List.getElem_cons_zero, List.getElem_cons_succ, List.setIfInBounds_toArray, List.set_cons_zero, List.set_cons_succ]
        refine wpAnyH_ready (rs := [1]) (by kernel_rfl) (by simp) ?_
        refine AllReadyH.cons rfl (fun K hK => ?_) AllReadyH.nil
        go_simp
        go_at_call 11
        refine (CV.out _ hHeld.1).mono ?_
        rintro e r1 ⟨rfl, hbq⟩
        dsimp only
        refine hK.out _ _ ?_ (fun hHeld => ?_)
        · (try dsimp only)
          exact keepS.out _ _ hHeld hbq
        clear hK K
        try simp only [Act.put, List.getElem_toArray, List.getElem_cons_zero, List.getElem_cons_succ, List.setIfInBounds_toArray, List.set_cons_zero, List.set_cons_succ]
        refine wpAnyH_ready (rs := [3]) (by kernel_rfl) (by simp) ?_
        refine AllReadyH.cons rfl (fun K hK => ?_) AllReadyH.nil
        go_simp
        go_at_call 12
        refine (CR.out _ hHeld.1).mono ?_
        rintro e r3 ⟨rfl, hbq⟩
        dsimp only
        refine hK.out _ _ ?_ (fun hHeld => ?_)
        · (try dsimp only)
          exact keepS.out _ _ hHeld hbq
        clear hK K
        try simp only [Act.put, List.getElem_toArray, List.getElem_cons_zero, List.getElem_cons_succ, List.setIfInBounds_toArray, List.set_cons_zero, List.set_cons_succ]
        refine tkY 4 (v := ?v132) rfl (.inl ⟨by rfl, ?hy132⟩) ?hr132
        case hy132 => (intro w hSw; (try dsimp only at hSw); go_simp; try with_reducible rfl)
        simp only [Act.put, List.getElem_toArray, List.getElem_cons_zero, List.getElem_cons_succ, List.setIfInBounds_toArray, List.set_cons_zero, List.set_cons_succ]
        refine tkY 5 (v := ?v133) rfl (.inl ⟨by rfl, ?hy133⟩) ?hr133
        case hy133 => (intro w hSw; (try dsimp only at hSw); go_simp; try with_reducible rfl)
        simp only [Act.put, List.getElem_toArray, List.getElem_cons_zero, List.getElem_cons_succ, List.setIfInBounds_toArray, List.set_cons_zero, List.set_cons_succ]
        refine tkY 6 (v := ?v134) rfl (.inl ⟨by rfl, ?hy134⟩) ?hr134
        case hy134 => (intro w hSw; (try dsimp only at hSw); go_simp; try with_reducible rfl)
        simp only [Act.put, List.getElem_toArray, List.getElem_cons_zero, List.getElem_cons_succ, List.setIfInBounds_toArray, List.set_cons_zero, List.set_cons_succ]
        refine tkY 8 (v := ?v135) rfl (.inl ⟨by rfl, ?hy135⟩) ?hr135
        case hy135 => (intro w hSw; (try dsimp only at hSw); go_simp; try with_reducible rfl)
        simp only [Act.put, List.getElem_toArray, List.getElem_cons_zero, List.getElem_cons_succ, List.setIfInBounds_toArray, List.set_cons_zero, List.set_cons_succ]
        refine wpAnyH_ready (rs := [7]) (by kernel_rfl) (by simp) ?_
        refine AllReadyH.cons rfl (fun K hK => ?_) AllReadyH.nil
        go_simp
        go_at_call 11
        refine (CV2.out _ hHeld.1).mono ?_
        rintro e r7 ⟨rfl, hbq⟩
        dsimp only
        refine hK.out _ _ ?_ (fun hHeld => ?_)
        · (try dsimp only)
          exact keepS.out _ _ hHeld hbq
        clear hK K
        try simp only [Act.put, List.getElem_toArray, List.getElem_cons_zero, List.getElem_cons_succ, List.setIfInBounds_toArray, List.set_cons_zero, List.set_cons_succ]
        refine wpAnyH_ready (rs := [9]) (by kernel_rfl) (by simp) ?_
        refine AllReadyH.cons rfl (fun K hK => ?_) AllReadyH.nil
        go_simp
        go_at_call 12
        refine (CR2.out _ hHeld.1).mono ?_
        rintro e r9 ⟨rfl, hbq⟩
        dsimp only
        refine hK.out _ _ ?_ (fun hHeld => ?_)
        · (try dsimp only)
          exact keepS.out _ _ hHeld hbq
        clear hK K
        try simp only [Act.put, List.getElem_toArray, List.getElem_cons_zero, List.getElem_cons_succ, List.setIfInBounds_toArray, List.set_cons_zero, List.set_cons_succ]
        refine tkY 10 (v := ?v136) rfl (.inl ⟨by rfl, ?hy136⟩) ?hr136
        case hy136 => (intro w hSw; (try dsimp only at hSw); go_simp; try with_reducible rfl)
        simp only [Act.put, List.getElem_toArray, List.getElem_cons_zero, List.getElem_cons_succ, List.setIfInBounds_toArray, List.set_cons_zero, List.set_cons_succ]
        refine tkY 11 (v := ?v137) rfl (.inl ⟨by rfl, ?hy137⟩) ?hr137
        case hy137 => (intro w hSw; (try dsimp only at hSw); go_simp; try with_reducible rfl)
        simp only [Act.put, List.getElem_toArray, List.getElem_cons_zero, List.getElem_cons_succ, List.setIfInBounds_toArray, List.set_cons_zero, List.set_cons_succ]
        refine tkY 12 (v := ?v138) rfl (.inl ⟨by rfl, ?hy138⟩) ?hr138
        case hy138 => (intro w hSw; (try dsimp only at hSw); go_simp; try with_reducible rfl)
        simp only [Act.put, List.getElem_toArray, List.getElem_cons_zero, List.getElem_cons_succ, List.setIfInBounds_toArray, List.set_cons_zero, List.set_cons_succ]
        refine wpAnyH_ready (rs := [13]) (by kernel_rfl) (by simp) ?_
        refine AllReadyH.cons rfl (fun K hK => ?_) AllReadyH.nil
        go_simp
        go_at_call 10
        refine (lives_any _).mono ?_
        rintro e rL ⟨rfl, hbq⟩
        dsimp only
        refine hK.out _ _ ?_ (fun hHeld => ?_)
        · (try dsimp only)
          exact keepS.out _ _ hHeld hbq
        clear hK K
        try simp only [Act.put, List.getElem_toArray, List.getElem_cons_zero, List.getElem_cons_succ, List.setIfInBounds_toArray, List.set_cons_zero, List.set_cons_succ]
        refine tkY 14 (v := ?v139) rfl (.inl ⟨by rfl, ?hy139⟩) ?hr139
        case hy139 => (intro w hSw; (try dsimp only at hSw); go_simp; try with_reducible rfl)
        simp only [Act.put, List.getElem_toArray, List.getElem_cons_zero, List.getElem_cons_succ, List.setIfInBounds_toArray, List.set_cons_zero, List.set_cons_succ]
        refine tkY 15 (v := ?v140) rfl (.inl ⟨by rfl, ?hy140⟩) ?hr140
        case hy140 => (intro w hSw; (try dsimp only at hSw); go_simp; try with_reducible rfl)
        simp only [Act.put, List.getElem_toArray, List.getElem_cons_zero, List.getElem_cons_succ, List.setIfInBounds_toArray, List.set_cons_zero, List.set_cons_succ]
        refine wpAnyH_done (by kernel_rfl) ?_ _
        have hbW := hHeld.1
        clear hHeld hS1 keepS
        have hbf := hbx.trans (hbW.mono hbx.size)
        repeat' ((fail_if_success at_builtin); (first | go_skip | go_guarded | go_step))
        go_ret
        exact ⟨rfl, hbf⟩
      · have n2' : ¬ (n : Int) < 1100 := by omega
        go_upto_region 4 with (fail)
        generalize hx_ : World.alloc w1 _ = wo3
        have hO3 : OwnB w wo3 [(w1.heap.size, [.string x.name, .string x.text, .int .i64 x.level, .slice A1 x.refs.length c1, .slice A2 x.envs.length c2]), (w.heap.size, [.string x.name, .string x.text, .int .i64 x.level, .slice A1 x.refs.length c1, .slice A2 x.envs.length c2])] := by rw [← hx_]; exact hO2.new #[.string x.name, .string x.text, .int .i64 x.level, .slice A1 x.refs.length c1, .slice A2 x.envs.length c2] _ (g := w1.heap.size)
        have hbn : Below w1.heap.size w1 wo3 := by rw [← hx_]; exact (Below.refl _ _).alloc (Nat.le_refl _) _
        have zwo3 : w1.heap.size + 0 < wo3.heap.size := by rw [← hx_]; simp <;> omega
        clear hx_ c0_0 c0_1 c0_2 c0_3 c0_4 cf0 hO2
        have c0_0 : wo3.cell? ⟨w1.heap.size, 0, none⟩ = some (.string x.name) := hO3.c 0 0
        have c0_1 : wo3.cell? ⟨w1.heap.size, 1, none⟩ = some (.string x.text) := hO3.c 0 1
        have c0_2 : wo3.cell? ⟨w1.heap.size, 2, none⟩ = some (.int .i64 x.level) := hO3.c 0 2
        have c0_3 : wo3.cell? ⟨w1.heap.size, 3, none⟩ = some (.slice A1 x.refs.length c1) := hO3.c 0 3
        have c0_4 : wo3.cell? ⟨w1.heap.size, 4, none⟩ = some (.slice A2 x.envs.length c2) := hO3.c 0 4
        have cf0 := hO3.fr 0
        have c1_0 : wo3.cell? ⟨w.heap.size, 0, none⟩ = some (.string x.name) := hO3.c 1 0
        have c1_1 : wo3.cell? ⟨w.heap.size, 1, none⟩ = some (.string x.text) := hO3.c 1 1
        have c1_2 : wo3.cell? ⟨w.heap.size, 2, none⟩ = some (.int .i64 x.level) := hO3.c 1 2
        have c1_3 : wo3.cell? ⟨w.heap.size, 3, none⟩ = some (.slice A1 x.refs.length c1) := hO3.c 1 3
        have c1_4 : wo3.cell? ⟨w.heap.size, 4, none⟩ = some (.slice A2 x.envs.length c2) := hO3.c 1 4
        have cf1 := hO3.fr 1
        clear hbn
        have hbx := hO3.below
        have CV := fun v (hv : Below wo3.heap.size wo3 v) => valid_any x A1 c1 A2 c2 v (h1.upB (hbx.trans (hv.mono hbx.size))) (h2.upB (hbx.trans (hv.mono hbx.size))) hw
        have CR := fun v (hv : Below wo3.heap.size wo3 v) => refValid_any x A1 c1 A2 c2 v (h1.upB (hbx.trans (hv.mono hbx.size))) (h2.upB (hbx.trans (hv.mono hbx.size))) hw
        have CV2 := fun v (hv : Below wo3.heap.size wo3 v) => valid_any x A1 c1 A2 c2 v (h1.upB (hbx.trans (hv.mono hbx.size))) (h2.upB (hbx.trans (hv.mono hbx.size))) hw
        have CR2 := fun v (hv : Below wo3.heap.size wo3 v) => refValid_any x A1 c1 A2 c2 v (h1.upB (hbx.trans (hv.mono hbx.size))) (h2.upB (hbx.trans (hv.mono hbx.size))) hw
        generalize vE x = q2 at CV2 CR2
        generalize vE x = q1 at CV CR
        have g1 : (q1 == q1) = true := by simp
        have g2 : (q2 == q2) = true := by simp
        replace CV := Lib.hid CV
        replace CR := Lib.hid CR
        replace CV2 := Lib.hid CV2
        replace CR2 := Lib.hid CR2
        have hS0 : (Below wo3.heap.size wo3 wo3 ∧ wo3.cell? ⟨w1.heap.size, 0, none⟩ = some (.string x.name) ∧ wo3.cell? ⟨w1.heap.size, 1, none⟩ = some (.string x.text) ∧ wo3.cell? ⟨w1.heap.size, 2, none⟩ = some (.int .i64 x.level) ∧ wo3.cell? ⟨w1.heap.size, 3, none⟩ = some (.slice A1 x.refs.length c1) ∧ wo3.cell? ⟨w1.heap.size, 4, none⟩ = some (.slice A2 x.envs.length c2) ∧ wo3.cell? ⟨w.heap.size, 0, none⟩ = some (.string x.name) ∧ wo3.cell? ⟨w.heap.size, 1, none⟩ = some (.string x.text) ∧ wo3.cell? ⟨w.heap.size, 2, none⟩ = some (.int .i64 x.level) ∧ wo3.cell? ⟨w.heap.size, 3, none⟩ = some (.slice A1 x.refs.length c1) ∧ wo3.cell? ⟨w.heap.size, 4, none⟩ = some (.slice A2 x.envs.length c2)) := ⟨Below.refl _ _, c0_0, c0_1, c0_2, c0_3, c0_4, c1_0, c1_1, c1_2, c1_3, c1_4⟩
        have keepS : ∀ v1 v2 : World, (Below wo3.heap.size wo3 v1 ∧ v1.cell? ⟨w1.heap.size, 0, none⟩ = some (.string x.name) ∧ v1.cell? ⟨w1.heap.size, 1, none⟩ = some (.string x.text) ∧ v1.cell? ⟨w1.heap.size, 2, none⟩ = some (.int .i64 x.level) ∧ v1.cell? ⟨w1.heap.size, 3, none⟩ = some (.slice A1 x.refs.length c1) ∧ v1.cell? ⟨w1.heap.size, 4, none⟩ = some (.slice A2 x.envs.length c2) ∧ v1.cell? ⟨w.heap.size, 0, none⟩ = some (.string x.name) ∧ v1.cell? ⟨w.heap.size, 1, none⟩ = some (.string x.text) ∧ v1.cell? ⟨w.heap.size, 2, none⟩ = some (.int .i64 x.level) ∧ v1.cell? ⟨w.heap.size, 3, none⟩ = some (.slice A1 x.refs.length c1) ∧ v1.cell? ⟨w.heap.size, 4, none⟩ = some (.slice A2 x.envs.length c2)) → Below v1.heap.size v1 v2 → (Below wo3.heap.size wo3 v2 ∧ v2.cell? ⟨w1.heap.size, 0, none⟩ = some (.string x.name) ∧ v2.cell? ⟨w1.heap.size, 1, none⟩ = some (.string x.text) ∧ v2.cell? ⟨w1.heap.size, 2, none⟩ = some (.int .i64 x.level) ∧ v2.cell? ⟨w1.heap.size, 3, none⟩ = some (.slice A1 x.refs.length c1) ∧ v2.cell? ⟨w1.heap.size, 4, none⟩ = some (.slice A2 x.envs.length c2) ∧ v2.cell? ⟨w.heap.size, 0, none⟩ = some (.string x.name) ∧ v2.cell? ⟨w.heap.size, 1, none⟩ = some (.string x.text) ∧ v2.cell? ⟨w.heap.size, 2, none⟩ = some (.int .i64 x.level) ∧ v2.cell? ⟨w.heap.size, 3, none⟩ = some (.slice A1 x.refs.length c1) ∧ v2.cell? ⟨w.heap.size, 4, none⟩ = some (.slice A2 x.envs.length c2)) := fun v1 v2 h hb => ⟨h.1.trans (hb.mono h.1.size), (hb.cell (p := ⟨w1.heap.size, _, none⟩) (Nat.lt_of_lt_of_le (hO3.lt 0) h.1.size)).trans h.2.1, (hb.cell (p := ⟨w1.heap.size, _, none⟩) (Nat.lt_of_lt_of_le (hO3.lt 0) h.1.size)).trans h.2.2.1, (hb.cell (p := ⟨w1.heap.size, _, none⟩) (Nat.lt_of_lt_of_le (hO3.lt 0) h.1.size)).trans h.2.2.2.1, (hb.cell (p := ⟨w1.heap.size, _, none⟩) (Nat.lt_of_lt_of_le (hO3.lt 0) h.1.size)).trans h.2.2.2.2.1, (hb.cell (p := ⟨w1.heap.size, _, none⟩) (Nat.lt_of_lt_of_le (hO3.lt 0) h.1.size)).trans h.2.2.2.2.2.1, (hb.cell (p := ⟨w.heap.size, _, none⟩) (Nat.lt_of_lt_of_le (hO3.lt 1) h.1.size)).trans h.2.2.2.2.2.2.1, (hb.cell (p := ⟨w.heap.size, _, none⟩) (Nat.lt_of_lt_of_le (hO3.lt 1) h.1.size)).trans h.2.2.2.2.2.2.2.1, (hb.cell (p := ⟨w.heap.size, _, none⟩) (Nat.lt_of_lt_of_le (hO3.lt 1) h.1.size)).trans h.2.2.2.2.2.2.2.2.1, (hb.cell (p := ⟨w.heap.size, _, none⟩) (Nat.lt_of_lt_of_le (hO3.lt 1) h.1.size)).trans h.2.2.2.2.2.2.2.2.2.1, (hb.cell (p := ⟨w.heap.size, _, none⟩) (Nat.lt_of_lt_of_le (hO3.lt 1) h.1.size)).trans h.2.2.2.2.2.2.2.2.2.2⟩
        have hS1 : (Below wo3.heap.size wo3 wo3.drew ∧ wo3.drew.cell? ⟨w1.heap.size, 0, none⟩ = some (.string x.name) ∧ wo3.drew.cell? ⟨w1.heap.size, 1, none⟩ = some (.string x.text) ∧ wo3.drew.cell? ⟨w1.heap.size, 2, none⟩ = some (.int .i64 x.level) ∧ wo3.drew.cell? ⟨w1.heap.size, 3, none⟩ = some (.slice A1 x.refs.length c1) ∧ wo3.drew.cell? ⟨w1.heap.size, 4, none⟩ = some (.slice A2 x.envs.length c2) ∧ wo3.drew.cell? ⟨w.heap.size, 0, none⟩ = some (.string x.name) ∧ wo3.drew.cell? ⟨w.heap.size, 1, none⟩ = some (.string x.text) ∧ wo3.drew.cell? ⟨w.heap.size, 2, none⟩ = some (.int .i64 x.level) ∧ wo3.drew.cell? ⟨w.heap.size, 3, none⟩ = some (.slice A1 x.refs.length c1) ∧ wo3.drew.cell? ⟨w.heap.size, 4, none⟩ = some (.slice A2 x.envs.length c2)) := keepS _ _ hS0 ((Below.refl _ _).drew)
        replace keepS := Lib.hid keepS
        clear hS0
        go_upto_region 6 with (fail)
        refine wp_region_held_drew (S := fun w' => Below wo3.heap.size wo3 w' ∧ w'.cell? ⟨w1.heap.size, 0, none⟩ = some (.string x.name) ∧ w'.cell? ⟨w1.heap.size, 1, none⟩ = some (.string x.text) ∧ w'.cell? ⟨w1.heap.size, 2, none⟩ = some (.int .i64 x.level) ∧ w'.cell? ⟨w1.heap.size, 3, none⟩ = some (.slice A1 x.refs.length c1) ∧ w'.cell? ⟨w1.heap.size, 4, none⟩ = some (.slice A2 x.envs.length c2) ∧ w'.cell? ⟨w.heap.size, 0, none⟩ = some (.string x.name) ∧ w'.cell? ⟨w.heap.size, 1, none⟩ = some (.string x.text) ∧ w'.cell? ⟨w.heap.size, 2, none⟩ = some (.int .i64 x.level) ∧ w'.cell? ⟨w.heap.size, 3, none⟩ = some (.slice A1 x.refs.length c1) ∧ w'.cell? ⟨w.heap.size, 4, none⟩ = some (.slice A2 x.envs.length c2)) (by kernel_rfl) ?_ (fun hHeld => ?_)
        · (try dsimp only)
          exact hS1
        refine tkY 0 (v := ?v108) rfl (.inl ⟨by rfl, ?hy108⟩) ?hr108
        case hy108 => (intro w hSw; (try dsimp only at hSw); go_simp; try with_reducible rfl)
        simp only [Act.put, List.getElem_toArray, List.getElem_cons_zero, List.setIfInBounds_toArray, List.set_cons_zero, List.set_cons_succ]
        refine tkY 2 (v := ?v109) rfl (.inl ⟨by rfl, ?hy109⟩) ?hr109
        case hy109 => (intro w hSw; (try dsimp only at hSw); go_simp; try with_reducible rfl)
        simp only [Act.put, List.getElem_toArray, List.getElem_cons_zero, List.getElem_cons_succ, List.setIfInBounds_toArray, List.set_cons_zero, List.set_cons_succ]
        refine wpAnyH_ready (rs := [1]) (by kernel_rfl) (by simp) ?_
        refine AllReadyH.cons rfl (fun K hK => ?_) AllReadyH.nil
        go_simp
        go_at_call 11
        refine (CV.out _ hHeld.1).mono ?_
        rintro e r1 ⟨rfl, hbq⟩
        dsimp only
        refine hK.out _ _ ?_ (fun hHeld => ?_)
        · (try dsimp only)
          exact keepS.out _ _ hHeld hbq
        clear hK K
        try simp only [Act.put, List.getElem_toArray, List.getElem_cons_zero, List.getElem_cons_succ, List.setIfInBounds_toArray, List.set_cons_zero, List.set_cons_succ]
        refine wpAnyH_ready (rs := [3]) (by kernel_rfl) (by simp) ?_
        refine AllReadyH.cons rfl (fun K hK => ?_) AllReadyH.nil
        go_simp
        go_at_call 12
        refine (CR.out _ hHeld.1).mono ?_
        rintro e r3 ⟨rfl, hbq⟩
        dsimp only
        refine hK.out _ _ ?_ (fun hHeld => ?_)
        · (try dsimp only)
          exact keepS.out _ _ hHeld hbq
        clear hK K
        try simp only [Act.put, List.getElem_toArray, List.getElem_cons_zero, List.getElem_cons_succ, List.setIfInBounds_toArray, List.set_cons_zero, List.set_cons_succ]
        refine tkY 4 (v := ?v110) rfl (.inl ⟨by rfl, ?hy110⟩) ?hr110
        case hy110 => (intro w hSw; (try dsimp only at hSw); go_simp; try with_reducible rfl)
        simp only [Act.put, List.getElem_toArray, List.getElem_cons_zero, List.getElem_cons_succ, List.setIfInBounds_toArray, List.set_cons_zero, List.set_cons_succ]
        refine tkY 5 (v := ?v111) rfl (.inl ⟨by rfl, ?hy111⟩) ?hr111
        case hy111 => (intro w hSw; (try dsimp only at hSw); go_simp; try with_reducible rfl)
        simp only [Act.put, List.getElem_toArray, List.getElem_cons_zero, List.getElem_cons_succ, List.setIfInBounds_toArray, List.set_cons_zero, List.set_cons_succ]
        refine tkY 6 (v := ?v112) rfl (.inl ⟨by rfl, ?hy112⟩) ?hr112
        case hy112 => (intro w hSw; (try dsimp only at hSw); go_simp; try with_reducible rfl)
        simp only [Act.put, List.getElem_toArray, List.getElem_cons_zero, List.getElem_cons_succ, List.setIfInBounds_toArray, List.set_cons_zero, List.set_cons_succ]
        refine tkY 8 (v := ?v113) rfl (.inl ⟨by rfl, ?hy113⟩) ?hr113
        case hy113 => (intro w hSw; (try dsimp only at hSw); go_simp; try with_reducible rfl)
        simp only [Act.put, List.getElem_toArray, List.getElem_cons_zero, List.getElem_cons_succ, List.setIfInBounds_toArray, List.set_cons_zero, List.set_cons_succ]
        refine wpAnyH_ready (rs := [7]) (by kernel_rfl) (by simp) ?_
        refine AllReadyH.cons rfl (fun K hK => ?_) AllReadyH.nil
        go_simp
        go_at_call 11
        refine (CV2.out _ hHeld.1).mono ?_
        rintro e r7 ⟨rfl, hbq⟩
        dsimp only
        refine hK.out _ _ ?_ (fun hHeld => ?_)
        · (try dsimp only)
          exact keepS.out _ _ hHeld hbq
        clear hK K
        try simp only [Act.put, List.getElem_toArray, List.getElem_cons_zero, List.getElem_cons_succ, List.setIfInBounds_toArray, List.set_cons_zero, List.set_cons_succ]
        refine wpAnyH_ready (rs := [9]) (by kernel_rfl) (by simp) ?_
        refine AllReadyH.cons rfl (fun K hK => ?_) AllReadyH.nil
        go_simp
        go_at_call 12
        refine (CR2.out _ hHeld.1).mono ?_
        rintro e r9 ⟨rfl, hbq⟩
        dsimp only
        refine hK.out _ _ ?_ (fun hHeld => ?_)
        · (try dsimp only)
          exact keepS.out _ _ hHeld hbq
        clear hK K
        try simp only [Act.put, List.getElem_toArray, List.getElem_cons_zero, List.getElem_cons_succ, List.setIfInBounds_toArray, List.set_cons_zero, List.set_cons_succ]
        refine tkY 10 (v := ?v114) rfl (.inl ⟨by rfl, ?hy114⟩) ?hr114
        case hy114 => (intro w hSw; (try dsimp only at hSw); go_simp; try with_reducible rfl)
        simp only [Act.put, List.getElem_toArray, List.getElem_cons_zero, List.getElem_cons_succ, List.setIfInBounds_toArray, List.set_cons_zero, List.set_cons_succ]
        refine tkY 11 (v := ?v115) rfl (.inl ⟨by rfl, ?hy115⟩) ?hr115
        case hy115 => (intro w hSw; (try dsimp only at hSw); go_simp; try with_reducible rfl)
        simp only [Act.put, List.getElem_toArray, List.getElem_cons_zero, List.getElem_cons_succ, List.setIfInBounds_toArray, List.set_cons_zero, List.set_cons_succ]
        refine tkY 12 (v := ?v116) rfl (.inl ⟨by rfl, ?hy116⟩) ?hr116
        case hy116 => (intro w hSw; (try dsimp only at hSw); go_simp; try with_reducible rfl)
        simp only [Act.put, List.getElem_toArray, List.getElem_cons_zero, List.getElem_cons_succ, List.setIfInBounds_toArray, List.set_cons_zero, List.set_cons_succ]
        refine wpAnyH_ready (rs := [13]) (by kernel_rfl) (by simp) ?_
        refine AllReadyH.cons rfl (fun K hK => ?_) AllReadyH.nil
        go_simp
        go_at_call 10
        refine (lives_any _).mono ?_
        rintro e rL ⟨rfl, hbq⟩
        dsimp only
        refine hK.out _ _ ?_ (fun hHeld => ?_)
        · (try dsimp only)
          exact keepS.out _ _ hHeld hbq
        clear hK K
        try simp only [Act.put, List.getElem_toArray, List.getElem_cons_zero, List.getElem_cons_succ, List.setIfInBounds_toArray, List.set_cons_zero, List.set_cons_succ]
        refine tkY 14 (v := ?v117) rfl (.inl ⟨by rfl, ?hy117⟩) ?hr117
        case hy117 => (intro w hSw; (try dsimp only at hSw); go_simp; try with_reducible rfl)
        simp only [Act.put, List.getElem_toArray, List.getElem_cons_zero, List.getElem_cons_succ, List.setIfInBounds_toArray, List.set_cons_zero, List.set_cons_succ]
        refine tkY 15 (v := ?v118) rfl (.inl ⟨by rfl, ?hy118⟩) ?hr118
        case hy118 => (intro w hSw; (try dsimp only at hSw); go_simp; try with_reducible rfl)
        simp only [Act.put, List.getElem_toArray, List.getElem_cons_zero, List.getElem_cons_succ, List.setIfInBounds_toArray, List.set_cons_zero, List.set_cons_succ]
        refine wpAnyH_done (by kernel_rfl) ?_ _
        have hbW := hHeld.1
        clear hHeld hS1 keepS
        have hbf := hbx.trans (hbW.mono hbx.size)
        repeat' ((fail_if_success at_builtin); (first | go_skip | go_guarded | go_step))
        go_ret
        exact ⟨rfl, hbf⟩
    · have n1' : ¬ (1000 : Int) < (n : Int) := by omega
      go_upto_region 4 with (fail)
      generalize hx_ : World.alloc w1 _ = wo3
      have hO3 : OwnB w wo3 [(w1.heap.size, [.string x.name, .string x.text, .int .i64 x.level, .slice A1 x.refs.length c1, .slice A2 x.envs.length c2]), (w.heap.size, [.string x.name, .string x.text, .int .i64 x.level, .slice A1 x.refs.length c1, .slice A2 x.envs.length c2])] := by rw [← hx_]; exact hO2.new #[.string x.name, .string x.text, .int .i64 x.level, .slice A1 x.refs.length c1, .slice A2 x.envs.length c2] _ (g := w1.heap.size)
      have hbn : Below w1.heap.size w1 wo3 := by rw [← hx_]; exact (Below.refl _ _).alloc (Nat.le_refl _) _
      have zwo3 : w1.heap.size + 0 < wo3.heap.size := by rw [← hx_]; simp <;> omega
      clear hx_ c0_0 c0_1 c0_2 c0_3 c0_4 cf0 hO2
      have c0_0 : wo3.cell? ⟨w1.heap.size, 0, none⟩ = some (.string x.name) := hO3.c 0 0
      have c0_1 : wo3.cell? ⟨w1.heap.size, 1, none⟩ = some (.string x.text) := hO3.c 0 1
      have c0_2 : wo3.cell? ⟨w1.heap.size, 2, none⟩ = some (.int .i64 x.level) := hO3.c 0 2
      have c0_3 : wo3.cell? ⟨w1.heap.size, 3, none⟩ = some (.slice A1 x.refs.length c1) := hO3.c 0 3
      have c0_4 : wo3.cell? ⟨w1.heap.size, 4, none⟩ = some (.slice A2 x.envs.length c2) := hO3.c 0 4
      have cf0 := hO3.fr 0
      have c1_0 : wo3.cell? ⟨w.heap.size, 0, none⟩ = some (.string x.name) := hO3.c 1 0
      have c1_1 : wo3.cell? ⟨w.heap.size, 1, none⟩ = some (.string x.text) := hO3.c 1 1
      have c1_2 : wo3.cell? ⟨w.heap.size, 2, none⟩ = some (.int .i64 x.level) := hO3.c 1 2
      have c1_3 : wo3.cell? ⟨w.heap.size, 3, none⟩ = some (.slice A1 x.refs.length c1) := hO3.c 1 3
      have c1_4 : wo3.cell? ⟨w.heap.size, 4, none⟩ = some (.slice A2 x.envs.length c2) := hO3.c 1 4
      have cf1 := hO3.fr 1
      clear hbn
      have hbx := hO3.below
      have CV := fun v (hv : Below wo3.heap.size wo3 v) => valid_any x A1 c1 A2 c2 v (h1.upB (hbx.trans (hv.mono hbx.size))) (h2.upB (hbx.trans (hv.mono hbx.size))) hw
      have CR := fun v (hv : Below wo3.heap.size wo3 v) => refValid_any x A1 c1 A2 c2 v (h1.upB (hbx.trans (hv.mono hbx.size))) (h2.upB (hbx.trans (hv.mono hbx.size))) hw
      have CV2 := fun v (hv : Below wo3.heap.size wo3 v) => valid_any x A1 c1 A2 c2 v (h1.upB (hbx.trans (hv.mono hbx.size))) (h2.upB (hbx.trans (hv.mono hbx.size))) hw
      have CR2 := fun v (hv : Below wo3.heap.size wo3 v) => refValid_any x A1 c1 A2 c2 v (h1.upB (hbx.trans (hv.mono hbx.size))) (h2.upB (hbx.trans (hv.mono hbx.size))) hw
      generalize vE x = q2 at CV2 CR2
      generalize vE x = q1 at CV CR
      have g1 : (q1 == q1) = true := by simp
      have g2 : (q2 == q2) = true := by simp
      replace CV := Lib.hid CV
      replace CR := Lib.hid CR
      replace CV2 := Lib.hid CV2
      replace CR2 := Lib.hid CR2
      have hS0 : (Below wo3.heap.size wo3 wo3 ∧ wo3.cell? ⟨w1.heap.size, 0, none⟩ = some (.string x.name) ∧ wo3.cell? ⟨w1.heap.size, 1, none⟩ = some (.string x.text) ∧ wo3.cell? ⟨w1.heap.size, 2, none⟩ = some (.int .i64 x.level) ∧ wo3.cell? ⟨w1.heap.size, 3, none⟩ = some (.slice A1 x.refs.length c1) ∧ wo3.cell? ⟨w1.heap.size, 4, none⟩ = some (.slice A2 x.envs.length c2) ∧ wo3.cell? ⟨w.heap.size, 0, none⟩ = some (.string x.name) ∧ wo3.cell? ⟨w.heap.size, 1, none⟩ = some (.string x.text) ∧ wo3.cell? ⟨w.heap.size, 2, none⟩ = some (.int .i64 x.level) ∧ wo3.cell? ⟨w.heap.size, 3, none⟩ = some (.slice A1 x.refs.length c1) ∧ wo3.cell? ⟨w.heap.size, 4, none⟩ = some (.slice A2 x.envs.length c2)) := ⟨Below.refl _ _, c0_0, c0_1, c0_2, c0_3, c0_4, c1_0, c1_1, c1_2, c1_3, c1_4⟩
      have keepS : ∀ v1 v2 : World, (Below wo3.heap.size wo3 v1 ∧ v1.cell? ⟨w1.heap.size, 0, none⟩ = some (.string x.name) ∧ v1.cell? ⟨w1.heap.size, 1, none⟩ = some (.string x.text) ∧ v1.cell? ⟨w1.heap.size, 2, none⟩ = some (.int .i64 x.level) ∧ v1.cell? ⟨w1.heap.size, 3, none⟩ = some (.slice A1 x.refs.length c1) ∧ v1.cell? ⟨w1.heap.size, 4, none⟩ = some (.slice A2 x.envs.length c2) ∧ v1.cell? ⟨w.heap.size, 0, none⟩ = some (.string x.name) ∧ v1.cell? ⟨w.heap.size, 1, none⟩ = some (.string x.text) ∧ v1.cell? ⟨w.heap.size, 2, none⟩ = some (.int .i64 x.level) ∧ v1.cell? ⟨w.heap.size, 3, none⟩ = some (.slice A1 x.refs.length c1) ∧ v1.cell? ⟨w.heap.size, 4, none⟩ = some (.slice A2 x.envs.length c2)) → Below v1.heap.size v1 v2 → (Below wo3.heap.size wo3 v2 ∧ v2.cell? ⟨w1.heap.size, 0, none⟩ = some (.string x.name) ∧ v2.cell? ⟨w1.heap.size, 1, none⟩ = some (.string x.text) ∧ v2.cell? ⟨w1.heap.size, 2, none⟩ = some (.int .i64 x.level) ∧ v2.cell? ⟨w1.heap.size, 3, none⟩ = some (.slice A1 x.refs.length c1) ∧ v2.cell? ⟨w1.heap.size, 4, none⟩ = some (.slice A2 x.envs.length c2) ∧ v2.cell? ⟨w.heap.size, 0, none⟩ = some (.string x.name) ∧ v2.cell? ⟨w.heap.size, 1, none⟩ = some (.string x.text) ∧ v2.cell? ⟨w.heap.size, 2, none⟩ = some (.int .i64 x.level) ∧ v2.cell? ⟨w.heap.size, 3, none⟩ = some (.slice A1 x.refs.length c1) ∧ v2.cell? ⟨w.heap.size, 4, none⟩ = some (.slice A2 x.envs.length c2)) := fun v1 v2 h hb => ⟨h.1.trans (hb.mono h.1.size), (hb.cell (p := ⟨w1.heap.size, _, none⟩) (Nat.lt_of_lt_of_le (hO3.lt 0) h.1.size)).trans h.2.1, (hb.cell (p := ⟨w1.heap.size, _, none⟩) (Nat.lt_of_lt_of_le (hO3.lt 0) h.1.size)).trans h.2.2.1, (hb.cell (p := ⟨w1.heap.size, _, none⟩) (Nat.lt_of_lt_of_le (hO3.lt 0) h.1.size)).trans h.2.2.2.1, (hb.cell (p := ⟨w1.heap.size, _, none⟩) (Nat.lt_of_lt_of_le (hO3.lt 0) h.1.size)).trans h.2.2.2.2.1, (hb.cell (p := ⟨w1.heap.size, _, none⟩) (Nat.lt_of_lt_of_le (hO3.lt 0) h.1.size)).trans h.2.2.2.2.2.1, (hb.cell (p := ⟨w.heap.size, _, none⟩) (Nat.lt_of_lt_of_le (hO3.lt 1) h.1.size)).trans h.2.2.2.2.2.2.1, (hb.cell (p := ⟨w.heap.size, _, none⟩) (Nat.lt_of_lt_of_le (hO3.lt 1) h.1.size)).trans h.2.2.2.2.2.2.2.1, (hb.cell (p := ⟨w.heap.size, _, none⟩) (Nat.lt_of_lt_of_le (hO3.lt 1) h.1.size)).trans h.2.2.2.2.2.2.2.2.1, (hb.cell (p := ⟨w.heap.size, _, none⟩) (Nat.lt_of_lt_of_le (hO3.lt 1) h.1.size)).trans h.2.2.2.2.2.2.2.2.2.1, (hb.cell (p := ⟨w.heap.size, _, none⟩) (Nat.lt_of_lt_of_le (hO3.lt 1) h.1.size)).trans h.2.2.2.2.2.2.2.2.2.2⟩
      have hS1 : (Below wo3.heap.size wo3 wo3.drew ∧ wo3.drew.cell? ⟨w1.heap.size, 0, none⟩ = some (.string x.name) ∧ wo3.drew.cell? ⟨w1.heap.size, 1, none⟩ = some (.string x.text) ∧ wo3.drew.cell? ⟨w1.heap.size, 2, none⟩ = some (.int .i64 x.level) ∧ wo3.drew.cell? ⟨w1.heap.size, 3, none⟩ = some (.slice A1 x.refs.length c1) ∧ wo3.drew.cell? ⟨w1.heap.size, 4, none⟩ = some (.slice A2 x.envs.length c2) ∧ wo3.drew.cell? ⟨w.heap.size, 0, none⟩ = some (.string x.name) ∧ wo3.drew.cell? ⟨w.heap.size, 1, none⟩ = some (.string x.text) ∧ wo3.drew.cell? ⟨w.heap.size, 2, none⟩ = some (.int .i64 x.level) ∧ wo3.drew.cell? ⟨w.heap.size, 3, none⟩ = some (.slice A1 x.refs.length c1) ∧ wo3.drew.cell? ⟨w.heap.size, 4, none⟩ = some (.slice A2 x.envs.length c2)) := keepS _ _ hS0 ((Below.refl _ _).drew)
      replace keepS := Lib.hid keepS
      clear hS0
      go_upto_region 6 with (fail)
      refine wp_region_held_drew (S := fun w' => Below wo3.heap.size wo3 w' ∧ w'.cell? ⟨w1.heap.size, 0, none⟩ = some (.string x.name) ∧ w'.cell? ⟨w1.heap.size, 1, none⟩ = some (.string x.text) ∧ w'.cell? ⟨w1.heap.size, 2, none⟩ = some (.int .i64 x.level) ∧ w'.cell? ⟨w1.heap.size, 3, none⟩ = some (.slice A1 x.refs.length c1) ∧ w'.cell? ⟨w1.heap.size, 4, none⟩ = some (.slice A2 x.envs.length c2) ∧ w'.cell? ⟨w.heap.size, 0, none⟩ = some (.string x.name) ∧ w'.cell? ⟨w.heap.size, 1, none⟩ = some (.string x.text) ∧ w'.cell? ⟨w.heap.size, 2, none⟩ = some (.int .i64 x.level) ∧ w'.cell? ⟨w.heap.size, 3, none⟩ = some (.slice A1 x.refs.length c1) ∧ w'.cell? ⟨w.heap.size, 4, none⟩ = some (.slice A2 x.envs.length c2)) (by kernel_rfl) ?_ (fun hHeld => ?_)
      · (try dsimp only)
        exact hS1
      refine tkY 0 (v := ?v119) rfl (.inl ⟨by rfl, ?hy119⟩) ?hr119
      case hy119 => (intro w hSw; (try dsimp only at hSw); go_simp; try with_reducible rfl)
      simp only [Act.put, List.getElem_toArray, List.getElem_cons_zero, List.setIfInBounds_toArray, List.set_cons_zero, List.set_cons_succ]
      refine tkY 2 (v := ?v120) rfl (.inl ⟨by rfl, ?hy120⟩) ?hr120
      case hy120 => (intro w hSw; (try dsimp only at hSw); go_simp; try with_reducible rfl)
      simp only [Act.put, List.getElem_toArray, List.getElem_cons_zero, List.getElem_cons_succ, List.setIfInBounds_toArray, List.set_cons_zero, List.set_cons_succ]
      refine wpAnyH_ready (rs := [1]) (by kernel_rfl) (by simp) ?_
      refine AllReadyH.cons rfl (fun K hK => ?_) AllReadyH.nil
      go_simp
      go_at_call 11
      refine (CV.out _ hHeld.1).mono ?_
      rintro e r1 ⟨rfl, hbq⟩
      dsimp only
      refine hK.out _ _ ?_ (fun hHeld => ?_)
      · (try dsimp only)
        exact keepS.out _ _ hHeld hbq
      clear hK K
      try simp only [Act.put, List.getElem_toArray, List.getElem_cons_zero, List.getElem_cons_succ, List.setIfInBounds_toArray, List.set_cons_zero, List.set_cons_succ]
      refine wpAnyH_ready (rs := [3]) (by kernel_rfl) (by simp) ?_
      refine AllReadyH.cons rfl (fun K hK => ?_) AllReadyH.nil
      go_simp
      go_at_call 12
      refine (CR.out _ hHeld.1).mono ?_
      rintro e r3 ⟨rfl, hbq⟩
      dsimp only
      refine hK.out _ _ ?_ (fun hHeld => ?_)
      · (try dsimp only)
        exact keepS.out _ _ hHeld hbq
      clear hK K
      try simp only [Act.put, List.getElem_toArray, List.getElem_cons_zero, List.getElem_cons_succ, List.setIfInBounds_toArray, List.set_cons_zero, List.set_cons_succ]
      refine tkY 4 (v := ?v121) rfl (.inl ⟨by rfl, ?hy121⟩) ?hr121
      case hy121 => (intro w hSw; (try dsimp only at hSw); go_simp; try with_reducible rfl)
      simp only [Act.put, List.getElem_toArray, List.getElem_cons_zero, List.getElem_cons_succ, List.setIfInBounds_toArray, List.set_cons_zero, List.set_cons_succ]
      refine tkY 5 (v := ?v122) rfl (.inl ⟨by rfl, ?hy122⟩) ?hr122
      case hy122 => (intro w hSw; (try dsimp only at hSw); go_simp; try with_reducible rfl)
      simp only [Act.put, List.getElem_toArray, List.getElem_cons_zero, List.getElem_cons_succ, List.setIfInBounds_toArray, List.set_cons_zero, List.set_cons_succ]
      refine tkY 6 (v := ?v123) rfl (.inl ⟨by rfl, ?hy123⟩) ?hr123
      case hy123 => (intro w hSw; (try dsimp only at hSw); go_simp; try with_reducible rfl)
      simp only [Act.put, List.getElem_toArray, List.getElem_cons_zero, List.getElem_cons_succ, List.setIfInBounds_toArray, List.set_cons_zero, List.set_cons_succ]
      refine tkY 8 (v := ?v124) rfl (.inl ⟨by rfl, ?hy124⟩) ?hr124
      case hy124 => (intro w hSw; (try dsimp only at hSw); go_simp; try with_reducible rfl)
      simp only [Act.put, List.getElem_toArray, List.getElem_cons_zero, List.getElem_cons_succ, List.setIfInBounds_toArray, List.set_cons_zero, List.set_cons_succ]
      refine wpAnyH_ready (rs := [7]) (by kernel_rfl) (by simp) ?_
      refine AllReadyH.cons rfl (fun K hK => ?_) AllReadyH.nil
      go_simp
      go_at_call 11
      refine (CV2.out _ hHeld.1).mono ?_
      rintro e r7 ⟨rfl, hbq⟩
      dsimp only
      refine hK.out _ _ ?_ (fun hHeld => ?_)
      · (try dsimp only)
        exact keepS.out _ _ hHeld hbq
      clear hK K
      try simp only [Act.put, List.getElem_toArray, List.getElem_cons_zero, List.getElem_cons_succ, List.setIfInBounds_toArray, List.set_cons_zero, List.set_cons_succ]
      refine wpAnyH_ready (rs := [9]) (by kernel_rfl) (by simp) ?_
      refine AllReadyH.cons rfl (fun K hK => ?_) AllReadyH.nil
      go_simp
      go_at_call 12
      refine (CR2.out _ hHeld.1).mono ?_
      rintro e r9 ⟨rfl, hbq⟩
      dsimp only
      refine hK.out _ _ ?_ (fun hHeld => ?_)
      · (try dsimp only)
        exact keepS.out _ _ hHeld hbq
      clear hK K
      try simp only [Act.put, List.getElem_toArray, List.getElem_cons_zero, List.getElem_cons_succ, List.setIfInBounds_toArray, List.set_cons_zero, List.set_cons_succ]
      refine tkY 10 (v := ?v125) rfl (.inl ⟨by rfl, ?hy125⟩) ?hr125
      case hy125 => (intro w hSw; (try dsimp only at hSw); go_simp; try with_reducible rfl)
      simp only [Act.put, List.getElem_toArray, List.getElem_cons_zero, List.getElem_cons_succ, List.setIfInBounds_toArray, List.set_cons_zero, List.set_cons_succ]
      refine tkY 11 (v := ?v126) rfl (.inl ⟨by rfl, ?hy126⟩) ?hr126
      case hy126 => (intro w hSw; (try dsimp only at hSw); go_simp; try with_reducible rfl)
      simp only [Act.put, List.getElem_toArray, List.getElem_cons_zero, List.getElem_cons_succ, List.setIfInBounds_toArray, List.set_cons_zero, List.set_cons_succ]
      refine tkY 12 (v := ?v127) rfl (.inl ⟨by rfl, ?hy127⟩) ?hr127
      case hy127 => (intro w hSw; (try dsimp only at hSw); go_simp; try with_reducible rfl)
      simp only [Act.put, List.getElem_toArray, List.getElem_cons_zero, List.getElem_cons_succ, List.setIfInBounds_toArray, List.set_cons_zero, List.set_cons_succ]
      refine wpAnyH_ready (rs := [13]) (by kernel_rfl) (by simp) ?_
      refine AllReadyH.cons rfl (fun K hK => ?_) AllReadyH.nil
      go_simp
      go_at_call 10
      refine (lives_any _).mono ?_
      rintro e rL ⟨rfl, hbq⟩
      dsimp only
      refine hK.out _ _ ?_ (fun hHeld => ?_)
      · (try dsimp only)
        exact keepS.out _ _ hHeld hbq
      clear hK K
      try simp only [Act.put, List.getElem_toArray, List.getElem_cons_zero, List.getElem_cons_succ, List.setIfInBounds_toArray, List.set_cons_zero, List.set_cons_succ]
      refine tkY 14 (v := ?v128) rfl (.inl ⟨by rfl, ?hy128⟩) ?hr128
      case hy128 => (intro w hSw; (try dsimp only at hSw); go_simp; try with_reducible rfl)
      simp only [Act.put, List.getElem_toArray, List.getElem_cons_zero, List.getElem_cons_succ, List.setIfInBounds_toArray, List.set_cons_zero, List.set_cons_succ]
      refine tkY 15 (v := ?v129) rfl (.inl ⟨by rfl, ?hy129⟩) ?hr129
      case hy129 => (intro w hSw; (try dsimp only at hSw); go_simp; try with_reducible rfl)
      simp only [Act.put, List.getElem_toArray, List.getElem_cons_zero, List.getElem_cons_succ, List.setIfInBounds_toArray, List.set_cons_zero, List.set_cons_succ]
      refine wpAnyH_done (by kernel_rfl) ?_ _
      have hbW := hHeld.1
      clear hHeld hS1 keepS
      have hbf := hbx.trans (hbW.mono hbx.size)
      repeat' ((fail_if_success at_builtin); (first | go_skip | go_guarded | go_step))
      go_ret
      exact ⟨rfl, hbf⟩
end Go.Proofs.YtgloblokkejgmaaDoor
