/- Secret: arguments opened. -/
import Derived.Test.YtgloblokkejgmaaDoorOpnS
import Derived.Test.YtgloblokkejgmaaDoorSeL1
import Derived.OpenShut
namespace Go.Proofs.YtgloblokkejgmaaDoor
open Go.ChangeShapes Go.WideShapes Go.ChangeAt Go.RowKit
theorem cells_strs : Tryd.prog.cellsOf 22 = 1 := by kernel_rfl
theorem cells_sec : Tryd.prog.cellsOf 24 = 5 := by kernel_rfl
theorem cells_org : Tryd.prog.cellsOf 41 = 3 := by kernel_rfl
theorem cells_job : Tryd.prog.cellsOf 57 = 39 := by kernel_rfl
theorem cells_case : Tryd.prog.cellsOf 59 = 43 := by kernel_rfl
section
variable {H : Type} {enc : TypeId × Value → H} {W : World} {spare : Nat → Bool} {held : Bool}
theorem open_lst {n : Nat} {v : Value} {y : DataW H × List MemPlace} (h : DataW.trod enc Tryd.prog W 0 spare held n 22 [v] = some y) : ∃ (l : List ByteArray) (A : Option Addr) (c : Nat), v = .slice A l.length c ∧ StrsR W (fun b => b < W.heap.size) A c l ∧ l.length ≤ 9223372036854775807 := by
  obtain ⟨A, len, cap, rfl⟩ := slice_val Tryd.underlying22 h
  obtain ⟨l, rfl, hnil, hm, hc, hs, ht⟩ := open_strs h
  unfold maxLen at hm
  exact ⟨l, A, cap, rfl, ⟨hs, hc, hnil⟩, by omega⟩
set_option maxRecDepth 100000 in
theorem open_sec {n : Nat} {cs : List Value} {y : DataW H × List MemPlace} (hl : cs.length = 5) (h : DataW.trod enc Tryd.prog W 0 spare held n 24 cs = some y) :
    ∃ (x : Sec) (A1 : Option Addr) (c1 : Nat) (A2 : Option Addr) (c2 : Nat), cs = [.string x.name, .string x.text, .int .i64 x.level, .slice A1 x.refs.length c1, .slice A2 x.envs.length c2] ∧ StrsR W (fun b => b < W.heap.size) A1 c1 x.refs ∧ StrsR W (fun b => b < W.heap.size) A2 c2 x.envs ∧ SecB x := by
  obtain ⟨xs, n', rfl, rfl, _, hxl, hf⟩ := DataW.trod_struct Tryd.underlying24 h
  match cs, hl with
  | [c0, c1, c2, c3, c4], _ =>
    match xs, hxl with
    | [y0, y1, y2, y3, y4], _ =>
      have f0 := field_one hf 0 (t := 9) (o := 0) rfl cells_str rfl rfl
      have f1 := field_one hf 1 (t := 9) (o := 1) rfl cells_str rfl rfl
      have f2 := field_one hf 2 (t := 3) (o := 2) rfl cells_int rfl rfl
      have f3 := field_one hf 3 (t := 22) (o := 3) rfl cells_strs rfl rfl
      have f4 := field_one hf 4 (t := 22) (o := 4) rfl cells_strs rfl rfl
      obtain ⟨s0, rfl, rfl, _⟩ := str_val Tryd.underlying9 f0
      obtain ⟨s1, rfl, rfl, _⟩ := str_val Tryd.underlying9 f1
      obtain ⟨z, rfl, rfl, _⟩ := int_val Tryd.underlying3 f2
      obtain ⟨l3, A3, k3, rfl, hL3, hb3⟩ := open_lst f3
      obtain ⟨l4, A4, k4, rfl, hL4, hb4⟩ := open_lst f4
      exact ⟨⟨s0, s1, z, l3, l4⟩, A3, k3, A4, k4, rfl, hL3, hL4, hb3, hb4⟩
def rSecB : Rd Sec := fun w S x cs => rSec w S x cs ∧ SecB x
theorem secs_of {w : World} {S : Nat → Prop} : ∀ {l : List Sec} {cs : List Value}, RList rSecB 5 w S l cs → RList rSec 5 w S l cs ∧ ∀ x ∈ l, SecB x
  | [], _, h => ⟨h, by simp⟩
  | x :: l, cs, h => by
    obtain ⟨c1, c2, rfl, hl, ⟨h1, h2⟩, h3⟩ := h
    obtain ⟨h4, h5⟩ := secs_of h3
    refine ⟨⟨c1, c2, rfl, hl, h1, h4⟩, fun y hy => ?_⟩
    rcases List.mem_cons.1 hy with rfl | hy
    · exact h2
    · exact h5 y hy
set_option maxRecDepth 100000 in
theorem open_secs {fuel : Nat} {A : Option Addr} {len cap : Nat} {x : DataW H × List MemPlace} (h : DataW.trod enc Tryd.prog W 0 spare held fuel 27 [.slice A len cap] = some x) : ∃ l : List Sec, SecsB W A len cap l := by
  obtain ⟨l, ⟨h1, h2, h3, cs, h4, h5⟩, h6, _⟩ := open_list (r := rSecB) (sz := 5) (bulk := fun _ => 0) Tryd.underlying27 cells_sec (by omega) (fun n cs y _ hl hy => by
    obtain ⟨x, A1, c1, A2, c2, rfl, r1, r2, hb⟩ := open_sec hl hy
    exact ⟨x, ⟨⟨A1, c1, A2, c2, rfl, r1, r2⟩, hb⟩, Nat.zero_le _⟩) h
  obtain ⟨h7, h8⟩ := secs_of h5
  unfold maxLen at h6
  exact ⟨l, ⟨h1, h2, h3, cs, h4, h7⟩, by omega, h8⟩
set_option maxRecDepth 100000 in
theorem open_org {n : Nat} {cs : List Value} {y : DataW H × List MemPlace} (hl : cs.length = 3) (h : DataW.trod enc Tryd.prog W 0 spare held n 41 cs = some y) :
    ∃ o : Org, cs = [.string o.prj, .string o.ref, .bool o.fork] := by
  obtain ⟨xs, n', rfl, rfl, _, hxl, hf⟩ := DataW.trod_struct Tryd.underlying41 h
  match cs, hl with
  | [c0, c1, c2], _ =>
    match xs, hxl with
    | [y0, y1, y2], _ =>
      have f0 := field_one hf 0 (t := 9) (o := 0) rfl cells_str rfl rfl
      have f1 := field_one hf 1 (t := 9) (o := 1) rfl cells_str rfl rfl
      have f2 := field_one hf 2 (t := 4) (o := 2) rfl cells_bool rfl rfl
      obtain ⟨s0, rfl, rfl, _⟩ := str_val Tryd.underlying9 f0
      obtain ⟨s1, rfl, rfl, _⟩ := str_val Tryd.underlying9 f1
      obtain ⟨b2, rfl, rfl⟩ := bool_val Tryd.underlying4 f2
      exact ⟨⟨s0, s1, b2⟩, rfl⟩
set_option maxRecDepth 100000 in
theorem open_job {n : Nat} {J : List Value} {y : DataW H × List MemPlace} (hl : J.length = 39) (h : DataW.trod enc Tryd.prog W 0 spare held n 57 J = some y) :
    ∃ (names : List ByteArray) (AN : Option Addr) (cN : Nat) (env : ByteArray), JobC W J names AN cN env := by
  obtain ⟨xs, n', rfl, rfl, _, hxl, hf⟩ := DataW.trod_struct Tryd.underlying57 h
  have hx : xs.length = 25 := hxl
  have f16 := field_one hf 16 (t := 22) (o := 28) rfl cells_strs (List.getElem?_eq_getElem (by omega)) (List.getElem?_eq_getElem (by omega))
  have f17 := field_one hf 17 (t := 9) (o := 29) rfl cells_str (List.getElem?_eq_getElem (by omega)) (List.getElem?_eq_getElem (by omega))
  have e28 : J[28]? = some J[28] := List.getElem?_eq_getElem (by omega)
  have e29 : J[29]? = some J[29] := List.getElem?_eq_getElem (by omega)
  obtain ⟨l, A, c, hv, hL, hb⟩ := open_lst f16
  obtain ⟨s, hs, _, _⟩ := str_val Tryd.underlying9 f17
  rw [hv] at e28
  rw [hs] at e29
  exact ⟨l, A, c, s, hl, e28, e29, hL, hb⟩
set_option maxRecDepth 100000 in
theorem open_case {n : Nat} {cs : List Value} {y : DataW H × List MemPlace} (hl : cs.length = 43) (h : DataW.trod enc Tryd.prog W 0 spare held n 59 cs = some y) :
    ∃ (o : Org) (t : Int) (J : List Value) (names : List ByteArray) (AN : Option Addr) (cN : Nat) (env : ByteArray), cs = caseL o t J ∧ JobC W J names AN cN env := by
  obtain ⟨xs, n', rfl, rfl, _, hxl, hf⟩ := DataW.trod_struct Tryd.underlying59 h
  match cs, hl with
  | c0 :: c1 :: c2 :: c3 :: J, hl =>
    match xs, hxl with
    | [y0, y1, y2], _ =>
      have f0 := field_wide hf 0 (t := 41) (o := 0) rfl cells_org rfl
      have f1 := field_one hf 1 (t := 3) (o := 3) rfl cells_int rfl rfl
      have f2 := field_wide hf 2 (t := 57) (o := 4) rfl cells_job rfl
      obtain ⟨o, e0⟩ := open_org (cs := [c0, c1, c2]) rfl f0
      obtain ⟨t, rfl, rfl, _⟩ := int_val Tryd.underlying3 f1
      have hJl : J.length = 39 := by simpa using hl
      have f3 : DataW.trod enc Tryd.prog W 0 spare held n' 57 J = some y2 := by
        have e : (List.drop 4 (c0 :: c1 :: c2 :: Value.int .i64 t :: J)).take 39 = J := by
          show J.take 39 = J
          rw [List.take_of_length_le (by omega)]
        rw [e] at f2
        exact f2
      obtain ⟨names, AN, cN, env, hJ⟩ := open_job hJl f3
      refine ⟨o, t, J, names, AN, cN, env, ?_, hJ⟩
      injection e0 with a0 a1
      injection a1 with a1 a2
      injection a2 with a2 _
      subst a0 a1 a2
      rfl
end
/-- a case's cells, for the witness -/
def caseW : Array Value := #[.string ⟨#[]⟩, .string ⟨#[]⟩, .bool false, .int .i64 0, .string ⟨#[]⟩, .slice none 0 0, .int .i64 0, .string ⟨#[]⟩, .int .i64 0, .bool false, .int .i64 0, .string ⟨#[]⟩, .slice none 0 0, .slice none 0 0, .slice none 0 0, .slice none 0 0, .slice none 0 0, .slice none 0 0, .slice none 0 0, .string ⟨#[]⟩, .int .i64 0, .int .i64 0, .int .i64 0, .int .i64 0, .int .i64 0, .slice none 0 0, .int .i64 0, .int .i64 0, .slice none 0 0, .slice none 0 0, .slice none 0 0, .slice none 0 0, .slice none 0 0, .string ⟨#[]⟩, .bool false, .int .i64 0, .slice none 0 0, .int .i64 0, .slice none 0 0, .int .i64 0, .int .i64 0, .bool false, .bool false]
end Go.Proofs.YtgloblokkejgmaaDoor
