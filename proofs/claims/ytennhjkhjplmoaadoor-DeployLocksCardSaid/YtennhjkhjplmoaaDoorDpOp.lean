/- Deploy: arguments opened. -/
import Derived.Test.YtennhjkhjplmoaaDoorOpnS
import Derived.Test.YtennhjkhjplmoaaDoorDpVa
import Derived.OpenShut
namespace Go.Proofs.YtennhjkhjplmoaaDoor
open Go.ChangeShapes Go.WideShapes Go.ChangeAt Go.RowKit
theorem cells_ref : Tryd.prog.cellsOf 29 = 2 := by kernel_rfl
theorem cells_dep : Tryd.prog.cellsOf 40 = 5 := by kernel_rfl
theorem cells_env : Tryd.prog.cellsOf 61 = 5 := by kernel_rfl
theorem cells_refs : Tryd.prog.cellsOf 58 = 1 := by kernel_rfl
theorem cells_deps : Tryd.prog.cellsOf 59 = 1 := by kernel_rfl
theorem cells_dig : Tryd.prog.cellsOf 38 = 1 := by kernel_rfl
/-- environments as they come in -/
structure EnvsB (w : World) (A : Option Addr) (n c : Nat) (l : List Env) : Prop where
  rd : RSlice rEnv 5 w (fun b => b < w.heap.size) A n c l
  ok : ∀ x ∈ l, EnvOk x
section
variable {H : Type} {enc : TypeId × Value → H} {W : World} {spare : Nat → Bool} {held : Bool}
set_option maxRecDepth 100000 in
theorem open_ref {n : Nat} {cs : List Value} {y : DataW H × List MemPlace} (hl : cs.length = 2) (h : DataW.trod enc Tryd.prog W 0 spare held n 29 cs = some y) :
    ∃ x : Ref, cs = refC x ∧ RefOk x := by
  obtain ⟨xs, n', rfl, rfl, _, hxl, hf⟩ := DataW.trod_struct Tryd.underlying29 h
  match cs, hl with
  | [c0, c1], _ =>
    match xs, hxl with
    | [y0, y1], _ =>
      have f0 := field_one hf 0 (t := 9) (o := 0) rfl cells_str rfl rfl
      have f1 := field_one hf 1 (t := 9) (o := 1) rfl cells_str rfl rfl
      obtain ⟨s0, rfl, rfl, h0⟩ := str_val Tryd.underlying9 f0
      obtain ⟨s1, rfl, rfl, h1⟩ := str_val Tryd.underlying9 f1
      exact ⟨⟨s0, s1⟩, rfl, h0, h1⟩
set_option maxRecDepth 100000 in
theorem open_dep {n : Nat} {cs : List Value} {y : DataW H × List MemPlace} (hl : cs.length = 5) (h : DataW.trod enc Tryd.prog W 0 spare held n 40 cs = some y) :
    ∃ x : Dep, cs = depC x ∧ RefOk x.ref := by
  obtain ⟨xs, n', rfl, rfl, _, hxl, hf⟩ := DataW.trod_struct Tryd.underlying40 h
  match cs, hl with
  | [c0, c1, c2, c3, c4], _ =>
    match xs, hxl with
    | [y0, y1, y2, y3], _ =>
      have f0 := field_wide hf 0 (t := 29) (o := 0) rfl cells_ref rfl
      have f1 := field_one hf 1 (t := 38) (o := 2) rfl cells_dig rfl rfl
      have f2 := field_one hf 2 (t := 3) (o := 3) rfl cells_int rfl rfl
      have f3 := field_one hf 3 (t := 3) (o := 4) rfl cells_int rfl rfl
      obtain ⟨r, e0, hr⟩ := open_ref (cs := [c0, c1]) rfl f0
      obtain ⟨v, rfl, rfl, _⟩ := int_val Tryd.underlying38 f1
      obtain ⟨a, rfl, rfl, _⟩ := int_val Tryd.underlying3 f2
      obtain ⟨s, rfl, rfl, _⟩ := int_val Tryd.underlying3 f3
      refine ⟨⟨r, v, a, s⟩, ?_, hr⟩
      injection e0 with a0 a1
      injection a1 with a1 _
      subst a0 a1
      rfl
def rRefB : Rd Ref := fun w S x cs => rRef w S x cs ∧ RefOk x
theorem refs_of {w : World} {S : Nat → Prop} : ∀ {l : List Ref} {cs : List Value}, RList rRefB 2 w S l cs → RList rRef 2 w S l cs ∧ ∀ x ∈ l, RefOk x
  | [], _, h => ⟨h, by simp⟩
  | x :: l, cs, h => by
    obtain ⟨c1, c2, rfl, hl, ⟨h1, h2⟩, h3⟩ := h
    obtain ⟨h4, h5⟩ := refs_of h3
    refine ⟨⟨c1, c2, rfl, hl, h1, h4⟩, fun y hy => ?_⟩
    rcases List.mem_cons.1 hy with rfl | hy
    · exact h2
    · exact h5 y hy
set_option maxRecDepth 100000 in
theorem open_refs {fuel : Nat} {v : Value} {x : DataW H × List MemPlace} (h : DataW.trod enc Tryd.prog W 0 spare held fuel 58 [v] = some x) : ∃ (l : List Ref) (A : Option Addr) (c : Nat), v = .slice A l.length c ∧ RSlice rRef 2 W (fun b => b < W.heap.size) A l.length c l ∧ ∀ x ∈ l, RefOk x := by
  obtain ⟨A, len, cap, rfl⟩ := slice_val Tryd.underlying58 h
  obtain ⟨l, ⟨h1, h2, h3, cs, h4, h5⟩, h6, _⟩ := open_list (r := rRefB) (sz := 2) (bulk := fun _ => 0) Tryd.underlying58 cells_ref (by omega) (fun n cs y _ hl hy => by
    obtain ⟨x, h1, h2⟩ := open_ref hl hy
    exact ⟨x, ⟨h1, h2⟩, Nat.zero_le _⟩) h
  obtain ⟨h7, h8⟩ := refs_of h5
  subst h1
  exact ⟨l, A, cap, rfl, ⟨rfl, h2, h3, cs, h4, h7⟩, h8⟩
set_option maxRecDepth 100000 in
theorem open_deps {fuel : Nat} {v : Value} {x : DataW H × List MemPlace} (h : DataW.trod enc Tryd.prog W 0 spare held fuel 59 [v] = some x) : ∃ (l : List Dep) (A : Option Addr) (c : Nat), v = .slice A l.length c ∧ RSlice rDep 5 W (fun b => b < W.heap.size) A l.length c l := by
  obtain ⟨A, len, cap, rfl⟩ := slice_val Tryd.underlying59 h
  obtain ⟨l, hr, h6, _⟩ := open_list (r := rDep) (sz := 5) (bulk := fun _ => 0) Tryd.underlying59 cells_dep (by omega) (fun n cs y _ hl hy => by
    obtain ⟨x, h1, h2⟩ := open_dep hl hy
    exact ⟨x, h1, Nat.zero_le _⟩) h
  obtain rfl := hr.1
  exact ⟨l, A, cap, rfl, hr⟩
set_option maxRecDepth 100000 in
theorem open_env {n : Nat} {cs : List Value} {y : DataW H × List MemPlace} (hl : cs.length = 5) (h : DataW.trod enc Tryd.prog W 0 spare held n 61 cs = some y) :
    ∃ x : Env, rEnv W (fun b => b < W.heap.size) x cs ∧ EnvOk x := by
  obtain ⟨xs, n', rfl, rfl, _, hxl, hf⟩ := DataW.trod_struct Tryd.underlying61 h
  match cs, hl with
  | [c0, c1, c2, c3, c4], _ =>
    match xs, hxl with
    | [y0, y1, y2, y3], _ =>
      have f0 := field_one hf 0 (t := 9) (o := 0) rfl cells_str rfl rfl
      have f1 := field_wide hf 1 (t := 29) (o := 1) rfl cells_ref rfl
      have f2 := field_one hf 2 (t := 58) (o := 3) rfl cells_refs rfl rfl
      have f3 := field_one hf 3 (t := 59) (o := 4) rfl cells_deps rfl rfl
      obtain ⟨s0, rfl, rfl, _⟩ := str_val Tryd.underlying9 f0
      obtain ⟨r, e0, hr⟩ := open_ref (cs := [c1, c2]) rfl f1
      obtain ⟨l2, A2, k2, rfl, hL2, hb2⟩ := open_refs f2
      obtain ⟨l3, A3, k3, rfl, hL3⟩ := open_deps f3
      refine ⟨⟨s0, r, l2, l3⟩, ⟨A2, k2, A3, k3, ?_, hL2, hL3⟩, hr, hb2⟩
      injection e0 with a0 a1
      injection a1 with a1 _
      subst a0 a1
      rfl
def rEnvB : Rd Env := fun w S x cs => rEnv w S x cs ∧ EnvOk x
theorem envs_of {w : World} {S : Nat → Prop} : ∀ {l : List Env} {cs : List Value}, RList rEnvB 5 w S l cs → RList rEnv 5 w S l cs ∧ ∀ x ∈ l, EnvOk x
  | [], _, h => ⟨h, by simp⟩
  | x :: l, cs, h => by
    obtain ⟨c1, c2, rfl, hl, ⟨h1, h2⟩, h3⟩ := h
    obtain ⟨h4, h5⟩ := envs_of h3
    refine ⟨⟨c1, c2, rfl, hl, h1, h4⟩, fun y hy => ?_⟩
    rcases List.mem_cons.1 hy with rfl | hy
    · exact h2
    · exact h5 y hy
set_option maxRecDepth 100000 in
theorem open_envs {fuel : Nat} {A : Option Addr} {len cap : Nat} {x : DataW H × List MemPlace} (h : DataW.trod enc Tryd.prog W 0 spare held fuel 22 [.slice A len cap] = some x) : ∃ l : List Env, EnvsB W A len cap l := by
  obtain ⟨l, ⟨h1, h2, h3, cs, h4, h5⟩, h6, _⟩ := open_list (r := rEnvB) (sz := 5) (bulk := fun _ => 0) Tryd.underlying22 cells_env (by omega) (fun n cs y _ hl hy => by
    obtain ⟨x, r1, hb⟩ := open_env hl hy
    exact ⟨x, ⟨r1, hb⟩, Nat.zero_le _⟩) h
  obtain ⟨h7, h8⟩ := envs_of h5
  exact ⟨l, ⟨h1, h2, h3, cs, h4, h7⟩, h8⟩
end
end Go.Proofs.YtennhjkhjplmoaaDoor
