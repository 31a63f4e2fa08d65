/- Secret: May on both sides. -/
import Derived.Test.YtgloblokkejgmaaDoorSeRP
namespace Go.Proofs.YtgloblokkejgmaaDoor
open Go.RowKit
def anyB (l : List ByteArray) (s : ByteArray) : Bool := anyS (toL l) s.data.toList
def lvlOk (x : Sec) (o : Org) (t : Int) : Bool := decide (x.level ≤ t) && (!o.fork || decide (x.level ≤ 0))
def plcOk (x : Sec) (env : ByteArray) : Bool := decide (x.envs = []) || (decide (env.size ≠ 0) && anyB x.envs env)
theorem mayS_def (x : Sec) (o : Org) (t : Int) (env : ByteArray) : mayS anyB x o t env = (lvlOk x o t && (anyB x.refs o.ref && plcOk x env)) := rfl
theorem lvlOk_lt {x : Sec} {o : Org} {t : Int} (h : t < x.level) : lvlOk x o t = false := by unfold lvlOk; rw [decide_eq_false (by omega)]; rfl
theorem lvlOk_open {x : Sec} {o : Org} {t : Int} (h : ¬ t < x.level) (hf : o.fork = false) : lvlOk x o t = true := by unfold lvlOk; rw [decide_eq_true (by omega), hf]; rfl
theorem lvlOk_fork {x : Sec} {o : Org} {t : Int} (h : ¬ t < x.level) (hf : o.fork = true) (h0 : x.level ≤ 0) : lvlOk x o t = true := by unfold lvlOk; rw [decide_eq_true (by omega), hf, decide_eq_true h0]; rfl
theorem lvlOk_shut {x : Sec} {o : Org} {t : Int} (hf : o.fork = true) (h0 : ¬ x.level ≤ 0) : lvlOk x o t = false := by unfold lvlOk; rw [hf, decide_eq_false h0]; simp
theorem plcOk_nil {x : Sec} {env : ByteArray} (h : x.envs.length = 0) : plcOk x env = true := by unfold plcOk; rw [decide_eq_true (List.eq_nil_of_length_eq_zero h)]; rfl
theorem plcOk_none {x : Sec} {env : ByteArray} (h : x.envs.length ≠ 0) (he : env.size = 0) : plcOk x env = false := by unfold plcOk; rw [decide_eq_false (fun e => h (by rw [e]; rfl)), decide_eq_false (by simp [he])]; rfl
theorem plcOk_some {x : Sec} {env : ByteArray} (h : x.envs.length ≠ 0) (he : env.size ≠ 0) : plcOk x env = anyB x.envs env := by unfold plcOk; rw [decide_eq_false (fun e => h (by rw [e]; rfl)), decide_eq_true he]; rfl
/-- two structs of a call's own: a secret, an origin -/
structure BoxS (w : World) (b : Nat) (x : Sec) (A1 : Option Addr) (c1 : Nat) (A2 : Option Addr) (c2 : Nat) : Prop where
  e2 : w.cell? ⟨b, 2, none⟩ = some (.int .i64 x.level)
  e3 : w.cell? ⟨b, 3, none⟩ = some (.slice A1 x.refs.length c1)
  e4 : w.cell? ⟨b, 4, none⟩ = some (.slice A2 x.envs.length c2)
structure BoxO (w : World) (b : Nat) (o : Org) : Prop where
  e1 : w.cell? ⟨b, 1, none⟩ = some (.string o.ref)
  e2 : w.cell? ⟨b, 2, none⟩ = some (.bool o.fork)
theorem any_sec (l : List ByteArray) (s : ByteArray) (A : Option Addr) (c : Nat) (w : World) (h : StrsR w (fun b => b < w.heap.size) A c l) (hl : l.length ≤ 1000000) (hm : ∀ p ∈ l, p.size ≤ 800000) (hs : s.size ≤ 1000000) :
    Calls Tryd.prog 44 #[.slice A l.length c, .string s] w fun e w' => e = .returned (.bool (anyB l s)) ∧ Below w.heap.size w w' := any_any l s A c w h.seq hl (fun p hp => by have := hm p hp; omega) hs
theorem rany_sec (l : List ByteArray) (s : ByteArray) (A : Option Addr) (c : Nat) (w : World) (h : StrsR w (fun b => b < w.heap.size) A c l) (hl : l.length ≤ 1000000) (hm : ∀ p ∈ l, p.size ≤ 800000) (hs : s.size ≤ 1000000) :
    Calls Tryd.prog 46 #[.slice A l.length c, .string s] w fun e w' => e = .returned (.bool (anyB l s)) ∧ Below w.heap.size w w' := rany_any l s A c w h.seq hl hm hs
set_option maxRecDepth 100000 in
set_option maxHeartbeats 2000000 in
theorem may1_any (x : Sec) (A1 : Option Addr) (c1 : Nat) (A2 : Option Addr) (c2 : Nat) (o : Org) (t : Int) (env : ByteArray) (bt bs bo : Nat) (w : World) (ht : w.cell? ⟨bt, 0, none⟩ = some (.int .i64 t)) (hs : BoxS w bs x A1 c1 A2 c2) (ho : BoxO w bo o) :
    Calls Tryd.prog 42 #[.pointer (some ⟨bt, 0, none⟩), .pointer (some ⟨bs, 0, none⟩), .pointer (some ⟨bo, 0, none⟩)] w fun e w' => e = .returned (.bool (lvlOk x o t)) ∧ Below w.heap.size w w' := by
  obtain ⟨R, hR⟩ : ∃ R, R = lvlOk x o t := ⟨_, rfl⟩
  rw [← hR]
  have e1 := hs.e2
  have e2 := ho.e2
  by_cases h1 : t < x.level
  · have hr := hR.trans (lvlOk_lt h1)
    have h1' : ¬ x.level ≤ t := by omega
    clear hR
    go_enter Tryd.func42, Tryd.ntmps42
    replace hr := Lib.hid hr
    repeat' ((fail_if_success at_builtin); (first | go_skip | go_guarded | go_step))
    go_ret
    exact ⟨by rw [hr.out]; rfl, Below.refl _ _⟩
  · have h1' : x.level ≤ t := by omega
    cases hf : o.fork with
    | false =>
      have hr := hR.trans (lvlOk_open h1 hf)
      rw [hf] at e2
      clear hR
      go_enter Tryd.func42, Tryd.ntmps42
      replace hr := Lib.hid hr
      repeat' ((fail_if_success at_builtin); (first | go_skip | go_guarded | go_step))
      go_ret
      exact ⟨by rw [hr.out]; rfl, Below.refl _ _⟩
    | true =>
      rw [hf] at e2
      by_cases h0 : x.level ≤ 0
      · have hr := hR.trans (lvlOk_fork h1 hf h0)
        clear hR
        go_enter Tryd.func42, Tryd.ntmps42
        replace hr := Lib.hid hr
        repeat' ((fail_if_success at_builtin); (first | go_skip | go_guarded | go_step))
        go_ret
        exact ⟨by rw [hr.out]; rfl, Below.refl _ _⟩
      · have hr := hR.trans (lvlOk_shut (t := t) hf h0)
        clear hR
        go_enter Tryd.func42, Tryd.ntmps42
        replace hr := Lib.hid hr
        repeat' ((fail_if_success at_builtin); (first | go_skip | go_guarded | go_step))
        go_ret
        exact ⟨by rw [hr.out]; rfl, Below.refl _ _⟩
set_option maxRecDepth 100000 in
set_option maxHeartbeats 2000000 in
theorem may2_any (x : Sec) (A1 : Option Addr) (c1 : Nat) (A2 : Option Addr) (c2 : Nat) (o : Org) (t : Int) (env : ByteArray) (bs bo : Nat) (w : World) (hs : BoxS w bs x A1 c1 A2 c2) (ho : BoxO w bo o) (h1 : StrsR w (fun b => b < w.heap.size) A1 c1 x.refs) (hx : SecW x) (hz : o.ref.size ≤ 1000000) :
    Calls Tryd.prog 43 #[.pointer (some ⟨bs, 0, none⟩), .pointer (some ⟨bo, 0, none⟩)] w fun e w' => e = .returned (.bool (anyB x.refs o.ref)) ∧ Below w.heap.size w w' := by
  have C := any_sec x.refs o.ref A1 c1 w h1 hx.refs hx.refe hz
  generalize anyB x.refs o.ref = q at *
  have e1 := hs.e3
  have e2 := ho.e1
  replace C := Lib.hid C
  go_enter Tryd.func43, Tryd.ntmps43
  repeat' ((fail_if_success at_builtin); (first | go_skip | go_guarded | go_step))
  refine C.out.mono ?_
  clear C
  rintro e w1 ⟨rfl, hb1⟩
  dsimp only
  repeat' ((fail_if_success at_builtin); (first | go_skip | go_guarded | go_step))
  go_ret
  exact ⟨rfl, hb1⟩
set_option maxRecDepth 100000 in
set_option maxHeartbeats 2000000 in
theorem may3_any (x : Sec) (A1 : Option Addr) (c1 : Nat) (A2 : Option Addr) (c2 : Nat) (o : Org) (t : Int) (env : ByteArray) (bs be : Nat) (w : World) (hs : BoxS w bs x A1 c1 A2 c2) (he : w.cell? ⟨be, 0, none⟩ = some (.string env)) (h2 : StrsR w (fun b => b < w.heap.size) A2 c2 x.envs) (hx : SecW x) (hz : env.size ≤ 1000000) :
    Calls Tryd.prog 45 #[.pointer (some ⟨bs, 0, none⟩), .pointer (some ⟨be, 0, none⟩)] w fun e w' => e = .returned (.bool (plcOk x env)) ∧ Below w.heap.size w w' := by
  obtain ⟨R, hR⟩ : ∃ R, R = plcOk x env := ⟨_, rfl⟩
  rw [← hR]
  have e1 := hs.e4
  by_cases h0 : x.envs.length = 0
  · have hr := hR.trans (plcOk_nil h0)
    have h0' : ((x.envs.length : Int) == 0) = true := beq_iff_eq.2 (by omega)
    clear hR h0
    go_enter Tryd.func45, Tryd.ntmps45
    replace hr := Lib.hid hr
    repeat' ((fail_if_success at_builtin); (first | go_skip | go_guarded | go_step))
    go_ret
    exact ⟨by rw [hr.out]; rfl, Below.refl _ _⟩
  · have h0' : ((x.envs.length : Int) == 0) = false := beq_eq_false_iff_ne.2 (by omega)
    by_cases he : env.size = 0
    · have hr := hR.trans (plcOk_none h0 he)
      have he' : (env.toList == []) = true := toList_none (s := env) (by omega)
      clear hR h0
      go_enter Tryd.func45, Tryd.ntmps45
      replace hr := Lib.hid hr
      repeat' ((fail_if_success at_builtin); (first | go_skip | go_guarded | go_step))
      go_ret
      exact ⟨by rw [hr.out]; rfl, Below.refl _ _⟩
    · have hr := hR.trans (plcOk_some h0 he)
      have he' : (env.toList == []) = false := toList_some (s := env) (by omega)
      have C := any_sec x.envs env A2 c2 w h2 hx.envs hx.enve hz
      clear hR h0
      generalize anyB x.envs env = q at *
      replace C := Lib.hid C
      replace hr := Lib.hid hr
      go_enter Tryd.func45, Tryd.ntmps45
      repeat' ((fail_if_success at_builtin); (first | go_skip | go_guarded | go_step))
      refine C.out.mono ?_
      clear C
      rintro e w9 ⟨rfl, hb9⟩
      dsimp only
      repeat' ((fail_if_success at_builtin); (first | go_skip | go_guarded | go_step))
      go_ret
      exact ⟨by rw [hr.out]; rfl, hb9⟩
set_option maxRecDepth 100000 in
set_option maxHeartbeats 4000000 in
theorem may_any (x : Sec) (A1 : Option Addr) (c1 : Nat) (A2 : Option Addr) (c2 : Nat) (o : Org) (t : Int) (env : ByteArray) (w : World) (h1 : StrsR w (fun b => b < w.heap.size) A1 c1 x.refs) (h2 : StrsR w (fun b => b < w.heap.size) A2 c2 x.envs) (hx : SecW x) (hz : o.ref.size ≤ 1000000) (hy : env.size ≤ 1000000) :
    Calls Tryd.prog 18 #[.agg #[.string x.name, .string x.text, .int .i64 x.level, .slice A1 x.refs.length c1, .slice A2 x.envs.length c2], .agg #[.string o.prj, .string o.ref, .bool o.fork], .int .i64 t, .string env] w fun e w' => e = .returned (.bool (mayS anyB x o t env)) ∧ Below w.heap.size w w' := by
  obtain ⟨R, hR⟩ : ∃ R, R = mayS anyB x o t env := ⟨_, rfl⟩
  rw [← hR]
  rw [mayS_def] at hR
  replace hR := Lib.hid hR
  go_enter Tryd.func18, Tryd.ntmps18
  go_upto_region 4 with (fail)
  generalize hx_ : World.alloc (World.alloc (World.alloc (World.alloc w _) _) _) _ = wo1
  have hO1 : OwnB w wo1 [(w.heap.size + 3, [.string env]), (w.heap.size + 2, [.int .i64 t]), (w.heap.size + 1, [.string o.prj, .string o.ref, .bool o.fork]), (w.heap.size, [.string x.name, .string x.text, .int .i64 x.level, .slice A1 x.refs.length c1, .slice A2 x.envs.length c2])] := by rw [← hx_]; exact ((((OwnB.refl w).new #[.string x.name, .string x.text, .int .i64 x.level, .slice A1 x.refs.length c1, .slice A2 x.envs.length c2] _ (g := w.heap.size)).new #[.string o.prj, .string o.ref, .bool o.fork] _ (g := w.heap.size + 1)).new #[.int .i64 t] _ (g := w.heap.size + 2)).new #[.string env] _ (g := w.heap.size + 3)
  have hbn : Below w.heap.size w wo1 := by rw [← hx_]; exact ((((Below.refl _ _).alloc (Nat.le_refl _) _).alloc (by simp) _).alloc (by simp; omega) _).alloc (by simp; omega) _
  have zwo1 : wo1.heap.size = w.heap.size + 4 := by rw [← hx_]; simp
  clear hx_
  have c0_0 : wo1.cell? ⟨w.heap.size + 3, 0, none⟩ = some (.string env) := hO1.c 0 0
  have cf0 := hO1.fr 0
  have c1_0 : wo1.cell? ⟨w.heap.size + 2, 0, none⟩ = some (.int .i64 t) := hO1.c 1 0
  have cf1 := hO1.fr 1
  have c2_0 : wo1.cell? ⟨w.heap.size + 1, 0, none⟩ = some (.string o.prj) := hO1.c 2 0
  have c2_1 : wo1.cell? ⟨w.heap.size + 1, 1, none⟩ = some (.string o.ref) := hO1.c 2 1
  have c2_2 : wo1.cell? ⟨w.heap.size + 1, 2, none⟩ = some (.bool o.fork) := hO1.c 2 2
  have cf2 := hO1.fr 2
  have c3_0 : wo1.cell? ⟨w.heap.size, 0, none⟩ = some (.string x.name) := hO1.c 3 0
  have c3_1 : wo1.cell? ⟨w.heap.size, 1, none⟩ = some (.string x.text) := hO1.c 3 1
  have c3_2 : wo1.cell? ⟨w.heap.size, 2, none⟩ = some (.int .i64 x.level) := hO1.c 3 2
  have c3_3 : wo1.cell? ⟨w.heap.size, 3, none⟩ = some (.slice A1 x.refs.length c1) := hO1.c 3 3
  have c3_4 : wo1.cell? ⟨w.heap.size, 4, none⟩ = some (.slice A2 x.envs.length c2) := hO1.c 3 4
  have cf3 := hO1.fr 3
  clear hbn
  have hbw := hO1.below
  have C := may1_any x A1 c1 A2 c2 o t env (w.heap.size + 2) w.heap.size (w.heap.size + 1) wo1 c1_0 ⟨c3_2, c3_3, c3_4⟩ ⟨c2_1, c2_2⟩
  generalize lvlOk x o t = q1 at *
  replace C := Lib.hid C
  repeat' ((fail_if_success at_builtin); (first | go_skip | go_guarded | go_step))
  refine C.out.mono ?_
  clear C
  rintro e w1 ⟨rfl, hb1⟩
  dsimp only
  clear hbw
  have zw1 := hb1.size
  have hO2 : OwnB w w1 [(w.heap.size + 3, [.string env]), (w.heap.size + 2, [.int .i64 t]), (w.heap.size + 1, [.string o.prj, .string o.ref, .bool o.fork]), (w.heap.size, [.string x.name, .string x.text, .int .i64 x.level, .slice A1 x.refs.length c1, .slice A2 x.envs.length c2])] := hO1.kept hb1
  clear c0_0 cf0 c1_0 cf1 c2_0 c2_1 c2_2 cf2 c3_0 c3_1 c3_2 c3_3 c3_4 cf3 hO1
  have c0_0 : w1.cell? ⟨w.heap.size + 3, 0, none⟩ = some (.string env) := hO2.c 0 0
  have cf0 := hO2.fr 0
  have c1_0 : w1.cell? ⟨w.heap.size + 2, 0, none⟩ = some (.int .i64 t) := hO2.c 1 0
  have cf1 := hO2.fr 1
  have c2_0 : w1.cell? ⟨w.heap.size + 1, 0, none⟩ = some (.string o.prj) := hO2.c 2 0
  have c2_1 : w1.cell? ⟨w.heap.size + 1, 1, none⟩ = some (.string o.ref) := hO2.c 2 1
  have c2_2 : w1.cell? ⟨w.heap.size + 1, 2, none⟩ = some (.bool o.fork) := hO2.c 2 2
  have cf2 := hO2.fr 2
  have c3_0 : w1.cell? ⟨w.heap.size, 0, none⟩ = some (.string x.name) := hO2.c 3 0
  have c3_1 : w1.cell? ⟨w.heap.size, 1, none⟩ = some (.string x.text) := hO2.c 3 1
  have c3_2 : w1.cell? ⟨w.heap.size, 2, none⟩ = some (.int .i64 x.level) := hO2.c 3 2
  have c3_3 : w1.cell? ⟨w.heap.size, 3, none⟩ = some (.slice A1 x.refs.length c1) := hO2.c 3 3
  have c3_4 : w1.cell? ⟨w.heap.size, 4, none⟩ = some (.slice A2 x.envs.length c2) := hO2.c 3 4
  have cf3 := hO2.fr 3
  have hbw := hO2.below
  cases q1 with
  | false =>
    repeat' ((fail_if_success at_builtin); (first | go_skip | go_guarded | go_step))
    go_ret
    exact ⟨by rw [hR.out]; rfl, hbw⟩
  | true =>
    have C := may2_any x A1 c1 A2 c2 o t env w.heap.size (w.heap.size + 1) w1 ⟨c3_2, c3_3, c3_4⟩ ⟨c2_1, c2_2⟩ (h1.map (fun _ hp => hbw.cell hp) (fun b hb => Nat.lt_of_lt_of_le hb hbw.size)) hx hz
    generalize anyB x.refs o.ref = q2 at *
    replace C := Lib.hid C
    repeat' ((fail_if_success at_builtin); (first | go_skip | go_guarded | go_step))
    refine C.out.mono ?_
    clear C
    rintro e w2 ⟨rfl, hb2⟩
    dsimp only
    clear hbw
    have zw2 := hb2.size
    have hO3 : OwnB w w2 [(w.heap.size + 3, [.string env]), (w.heap.size + 2, [.int .i64 t]), (w.heap.size + 1, [.string o.prj, .string o.ref, .bool o.fork]), (w.heap.size, [.string x.name, .string x.text, .int .i64 x.level, .slice A1 x.refs.length c1, .slice A2 x.envs.length c2])] := hO2.kept hb2
    clear c0_0 cf0 c1_0 cf1 c2_0 c2_1 c2_2 cf2 c3_0 c3_1 c3_2 c3_3 c3_4 cf3 hO2
    have c0_0 : w2.cell? ⟨w.heap.size + 3, 0, none⟩ = some (.string env) := hO3.c 0 0
    have cf0 := hO3.fr 0
    have c1_0 : w2.cell? ⟨w.heap.size + 2, 0, none⟩ = some (.int .i64 t) := hO3.c 1 0
    have cf1 := hO3.fr 1
    have c2_0 : w2.cell? ⟨w.heap.size + 1, 0, none⟩ = some (.string o.prj) := hO3.c 2 0
    have c2_1 : w2.cell? ⟨w.heap.size + 1, 1, none⟩ = some (.string o.ref) := hO3.c 2 1
    have c2_2 : w2.cell? ⟨w.heap.size + 1, 2, none⟩ = some (.bool o.fork) := hO3.c 2 2
    have cf2 := hO3.fr 2
    have c3_0 : w2.cell? ⟨w.heap.size, 0, none⟩ = some (.string x.name) := hO3.c 3 0
    have c3_1 : w2.cell? ⟨w.heap.size, 1, none⟩ = some (.string x.text) := hO3.c 3 1
    have c3_2 : w2.cell? ⟨w.heap.size, 2, none⟩ = some (.int .i64 x.level) := hO3.c 3 2
    have c3_3 : w2.cell? ⟨w.heap.size, 3, none⟩ = some (.slice A1 x.refs.length c1) := hO3.c 3 3
    have c3_4 : w2.cell? ⟨w.heap.size, 4, none⟩ = some (.slice A2 x.envs.length c2) := hO3.c 3 4
    have cf3 := hO3.fr 3
    have hbw := hO3.below
    cases q2 with
    | false =>
      repeat' ((fail_if_success at_builtin); (first | go_skip | go_guarded | go_step))
      go_ret
      exact ⟨by rw [hR.out]; rfl, hbw⟩
    | true =>
      have C := may3_any x A1 c1 A2 c2 o t env w.heap.size (w.heap.size + 3) w2 ⟨c3_2, c3_3, c3_4⟩ c0_0 (h2.map (fun _ hp => hbw.cell hp) (fun b hb => Nat.lt_of_lt_of_le hb hbw.size)) hx hy
      generalize plcOk x env = q3 at *
      replace C := Lib.hid C
      repeat' ((fail_if_success at_builtin); (first | go_skip | go_guarded | go_step))
      refine C.out.mono ?_
      clear C
      rintro e w3 ⟨rfl, hb3⟩
      dsimp only
      have hbf := hbw.trans (hb3.mono hbw.size)
      repeat' ((fail_if_success at_builtin); (first | go_skip | go_guarded | go_step))
      go_ret
      exact ⟨by rw [hR.out]; simp, hbf⟩
set_option maxRecDepth 100000 in
set_option maxHeartbeats 4000000 in
theorem refMay_any (x : Sec) (A1 : Option Addr) (c1 : Nat) (A2 : Option Addr) (c2 : Nat) (o : Org) (t : Int) (env : ByteArray) (w : World) (h1 : StrsR w (fun b => b < w.heap.size) A1 c1 x.refs) (h2 : StrsR w (fun b => b < w.heap.size) A2 c2 x.envs) (hx : SecW x) (hz : o.ref.size ≤ 1000000) (hy : env.size ≤ 1000000) :
    Calls Tryd.prog 19 #[.agg #[.string x.name, .string x.text, .int .i64 x.level, .slice A1 x.refs.length c1, .slice A2 x.envs.length c2], .agg #[.string o.prj, .string o.ref, .bool o.fork], .int .i64 t, .string env] w fun e w' => e = .returned (.bool (mayS anyB x o t env)) ∧ Below w.heap.size w w' := by
  obtain ⟨R0, hR0⟩ : ∃ R, R = mayS anyB x o t env := ⟨_, rfl⟩
  rw [← hR0]
  rw [mayS_def] at hR0
  go_enter Tryd.func19, Tryd.ntmps19
  go_upto_region 1 with (fail)
  generalize hx_ : World.alloc (World.alloc w _) _ = wo1
  have hO1 : OwnB w wo1 [(w.heap.size + 1, [.string o.prj, .string o.ref, .bool o.fork]), (w.heap.size, [.string x.name, .string x.text, .int .i64 x.level, .slice A1 x.refs.length c1, .slice A2 x.envs.length c2])] := by rw [← hx_]; exact ((OwnB.refl w).new #[.string x.name, .string x.text, .int .i64 x.level, .slice A1 x.refs.length c1, .slice A2 x.envs.length c2] _ (g := w.heap.size)).new #[.string o.prj, .string o.ref, .bool o.fork] _ (g := w.heap.size + 1)
  have hbn : Below w.heap.size w wo1 := by rw [← hx_]; exact ((Below.refl _ _).alloc (Nat.le_refl _) _).alloc (by simp) _
  have zwo1 : wo1.heap.size = w.heap.size + 2 := by rw [← hx_]; simp
  clear hx_
  have c0_0 : wo1.cell? ⟨w.heap.size + 1, 0, none⟩ = some (.string o.prj) := hO1.c 0 0
  have c0_1 : wo1.cell? ⟨w.heap.size + 1, 1, none⟩ = some (.string o.ref) := hO1.c 0 1
  have c0_2 : wo1.cell? ⟨w.heap.size + 1, 2, none⟩ = some (.bool o.fork) := hO1.c 0 2
  have cf0 := hO1.fr 0
  have c1_0 : wo1.cell? ⟨w.heap.size, 0, none⟩ = some (.string x.name) := hO1.c 1 0
  have c1_1 : wo1.cell? ⟨w.heap.size, 1, none⟩ = some (.string x.text) := hO1.c 1 1
  have c1_2 : wo1.cell? ⟨w.heap.size, 2, none⟩ = some (.int .i64 x.level) := hO1.c 1 2
  have c1_3 : wo1.cell? ⟨w.heap.size, 3, none⟩ = some (.slice A1 x.refs.length c1) := hO1.c 1 3
  have c1_4 : wo1.cell? ⟨w.heap.size, 4, none⟩ = some (.slice A2 x.envs.length c2) := hO1.c 1 4
  have cf1 := hO1.fr 1
  clear hbn
  have hbw := hO1.below
  by_cases h3 : t < x.level
  · have hlv := lvlOk_lt (o := o) h3
    have hr := hR0
    rw [hlv, Bool.false_and] at hr
    clear hR0
    replace hr := Lib.hid hr
    repeat' ((fail_if_success at_builtin); (first | go_skip | go_guarded | go_step))
    go_ret
    exact ⟨by rw [hr.out]; rfl, hbw⟩
  · cases hf : o.fork with
    | false =>
      have hlv := lvlOk_open h3 hf
      rw [hf] at c0_2
      rw [hlv, Bool.true_and] at hR0
      have C := rany_sec x.refs o.ref A1 c1 wo1 (h1.map (fun _ hp => hbw.cell hp) (fun b hb => Nat.lt_of_lt_of_le hb hbw.size)) hx.refs hx.refe hz
      generalize anyB x.refs o.ref = q2 at *
      replace C := Lib.hid C
      replace hR0 := Lib.hid hR0
      repeat' ((fail_if_success at_builtin); (first | go_skip | go_guarded | go_step))
      refine C.out.mono ?_
      clear C
      rintro e w2 ⟨rfl, hb2⟩
      dsimp only
      clear hbw
      have zw2 := hb2.size
      have hO2 : OwnB w w2 [(w.heap.size + 1, [.string o.prj, .string o.ref, .bool o.fork]), (w.heap.size, [.string x.name, .string x.text, .int .i64 x.level, .slice A1 x.refs.length c1, .slice A2 x.envs.length c2])] := hO1.kept hb2
      clear c0_0 c0_1 c0_2 cf0 c1_0 c1_1 c1_2 c1_3 c1_4 cf1 hO1
      have c0_0 : w2.cell? ⟨w.heap.size + 1, 0, none⟩ = some (.string o.prj) := hO2.c 0 0
      have c0_1 : w2.cell? ⟨w.heap.size + 1, 1, none⟩ = some (.string o.ref) := hO2.c 0 1
      have c0_2 : w2.cell? ⟨w.heap.size + 1, 2, none⟩ = some (.bool o.fork) := hO2.c 0 2
      have cf0 := hO2.fr 0
      have c1_0 : w2.cell? ⟨w.heap.size, 0, none⟩ = some (.string x.name) := hO2.c 1 0
      have c1_1 : w2.cell? ⟨w.heap.size, 1, none⟩ = some (.string x.text) := hO2.c 1 1
      have c1_2 : w2.cell? ⟨w.heap.size, 2, none⟩ = some (.int .i64 x.level) := hO2.c 1 2
      have c1_3 : w2.cell? ⟨w.heap.size, 3, none⟩ = some (.slice A1 x.refs.length c1) := hO2.c 1 3
      have c1_4 : w2.cell? ⟨w.heap.size, 4, none⟩ = some (.slice A2 x.envs.length c2) := hO2.c 1 4
      have cf1 := hO2.fr 1
      have hbw := hO2.below
      cases q2 with
      | false =>
        have hr := hR0.out
        rw [Bool.false_and] at hr
        clear hR0
        replace hr := Lib.hid hr
        repeat' ((fail_if_success at_builtin); (first | go_skip | go_guarded | go_step))
        go_ret
        exact ⟨by rw [hr.out]; rfl, hbw⟩
      | true =>
        have hR := hR0.out
        rw [Bool.true_and] at hR
        clear hR0
        by_cases h0 : x.envs.length = 0
        · have hr := hR.trans (plcOk_nil h0)
          have h0' : ((x.envs.length : Int) == 0) = true := beq_iff_eq.2 (by omega)
          clear hR h0
          replace hr := Lib.hid hr
          repeat' ((fail_if_success at_builtin); (first | go_skip | go_guarded | go_step))
          go_ret
          exact ⟨by rw [hr.out]; rfl, hbw⟩
        · have h0' : ((x.envs.length : Int) == 0) = false := beq_eq_false_iff_ne.2 (by omega)
          by_cases he : env.size = 0
          · have hr := hR.trans (plcOk_none h0 he)
            have he' : (env.toList == []) = true := toList_none (s := env) (by omega)
            clear hR h0
            replace hr := Lib.hid hr
            repeat' ((fail_if_success at_builtin); (first | go_skip | go_guarded | go_step))
            go_ret
            exact ⟨by rw [hr.out]; rfl, hbw⟩
          · have hr := hR.trans (plcOk_some h0 he)
            have he' : (env.toList == []) = false := toList_some (s := env) (by omega)
            have C := rany_sec x.envs env A2 c2 w2 (h2.map (fun _ hp => hbw.cell hp) (fun b hb => Nat.lt_of_lt_of_le hb hbw.size)) hx.envs hx.enve hy
            clear hR h0
            generalize anyB x.envs env = q at *
            replace C := Lib.hid C
            replace hr := Lib.hid hr

            repeat' ((fail_if_success at_builtin); (first | go_skip | go_guarded | go_step))
            refine C.out.mono ?_
            clear C
            rintro e w9 ⟨rfl, hb9⟩
            dsimp only
            repeat' ((fail_if_success at_builtin); (first | go_skip | go_guarded | go_step))
            go_ret
            exact ⟨by rw [hr.out]; rfl, hbw.trans (hb9.mono hbw.size)⟩
    | true =>
      rw [hf] at c0_2
      by_cases h0 : x.level ≤ 0
      · have hlv := lvlOk_fork h3 hf h0
        have h0' : ¬ 0 < x.level := by omega
        rw [hlv, Bool.true_and] at hR0
        have C := rany_sec x.refs o.ref A1 c1 wo1 (h1.map (fun _ hp => hbw.cell hp) (fun b hb => Nat.lt_of_lt_of_le hb hbw.size)) hx.refs hx.refe hz
        generalize anyB x.refs o.ref = q2 at *
        replace C := Lib.hid C
        replace hR0 := Lib.hid hR0
        repeat' ((fail_if_success at_builtin); (first | go_skip | go_guarded | go_step))
        refine C.out.mono ?_
        clear C
        rintro e w2 ⟨rfl, hb2⟩
        dsimp only
        clear hbw
        have zw2 := hb2.size
        have hO2 : OwnB w w2 [(w.heap.size + 1, [.string o.prj, .string o.ref, .bool o.fork]), (w.heap.size, [.string x.name, .string x.text, .int .i64 x.level, .slice A1 x.refs.length c1, .slice A2 x.envs.length c2])] := hO1.kept hb2
        clear c0_0 c0_1 c0_2 cf0 c1_0 c1_1 c1_2 c1_3 c1_4 cf1 hO1
        have c0_0 : w2.cell? ⟨w.heap.size + 1, 0, none⟩ = some (.string o.prj) := hO2.c 0 0
        have c0_1 : w2.cell? ⟨w.heap.size + 1, 1, none⟩ = some (.string o.ref) := hO2.c 0 1
        have c0_2 : w2.cell? ⟨w.heap.size + 1, 2, none⟩ = some (.bool o.fork) := hO2.c 0 2
        have cf0 := hO2.fr 0
        have c1_0 : w2.cell? ⟨w.heap.size, 0, none⟩ = some (.string x.name) := hO2.c 1 0
        have c1_1 : w2.cell? ⟨w.heap.size, 1, none⟩ = some (.string x.text) := hO2.c 1 1
        have c1_2 : w2.cell? ⟨w.heap.size, 2, none⟩ = some (.int .i64 x.level) := hO2.c 1 2
        have c1_3 : w2.cell? ⟨w.heap.size, 3, none⟩ = some (.slice A1 x.refs.length c1) := hO2.c 1 3
        have c1_4 : w2.cell? ⟨w.heap.size, 4, none⟩ = some (.slice A2 x.envs.length c2) := hO2.c 1 4
        have cf1 := hO2.fr 1
        have hbw := hO2.below
        cases q2 with
        | false =>
          have hr := hR0.out
          rw [Bool.false_and] at hr
          clear hR0
          replace hr := Lib.hid hr
          repeat' ((fail_if_success at_builtin); (first | go_skip | go_guarded | go_step))
          go_ret
          exact ⟨by rw [hr.out]; rfl, hbw⟩
        | true =>
          have hR := hR0.out
          rw [Bool.true_and] at hR
          clear hR0
          by_cases h0 : x.envs.length = 0
          · have hr := hR.trans (plcOk_nil h0)
            have h0' : ((x.envs.length : Int) == 0) = true := beq_iff_eq.2 (by omega)
            clear hR h0
            replace hr := Lib.hid hr
            repeat' ((fail_if_success at_builtin); (first | go_skip | go_guarded | go_step))
            go_ret
            exact ⟨by rw [hr.out]; rfl, hbw⟩
          · have h0' : ((x.envs.length : Int) == 0) = false := beq_eq_false_iff_ne.2 (by omega)
            by_cases he : env.size = 0
            · have hr := hR.trans (plcOk_none h0 he)
              have he' : (env.toList == []) = true := toList_none (s := env) (by omega)
              clear hR h0
              replace hr := Lib.hid hr
              repeat' ((fail_if_success at_builtin); (first | go_skip | go_guarded | go_step))
              go_ret
              exact ⟨by rw [hr.out]; rfl, hbw⟩
            · have hr := hR.trans (plcOk_some h0 he)
              have he' : (env.toList == []) = false := toList_some (s := env) (by omega)
              have C := rany_sec x.envs env A2 c2 w2 (h2.map (fun _ hp => hbw.cell hp) (fun b hb => Nat.lt_of_lt_of_le hb hbw.size)) hx.envs hx.enve hy
              clear hR h0
              generalize anyB x.envs env = q at *
              replace C := Lib.hid C
              replace hr := Lib.hid hr

              repeat' ((fail_if_success at_builtin); (first | go_skip | go_guarded | go_step))
              refine C.out.mono ?_
              clear C
              rintro e w9 ⟨rfl, hb9⟩
              dsimp only
              repeat' ((fail_if_success at_builtin); (first | go_skip | go_guarded | go_step))
              go_ret
              exact ⟨by rw [hr.out]; rfl, hbw.trans (hb9.mono hbw.size)⟩
      · have hlv := lvlOk_shut (t := t) hf h0
        have h0' : 0 < x.level := by omega
        have hr := hR0
        rw [hlv, Bool.false_and] at hr
        clear hR0
        replace hr := Lib.hid hr
        repeat' ((fail_if_success at_builtin); (first | go_skip | go_guarded | go_step))
        go_ret
        exact ⟨by rw [hr.out]; rfl, hbw⟩
end Go.Proofs.YtgloblokkejgmaaDoor
