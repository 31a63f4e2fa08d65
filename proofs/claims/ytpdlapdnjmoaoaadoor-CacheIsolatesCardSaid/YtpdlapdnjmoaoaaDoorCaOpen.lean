/- Arguments opened: entries, caches. -/
import Derived.Test.YtpdlapdnjmoaoaaDoorOpn
import Derived.Test.YtpdlapdnjmoaoaaDoorCaFw
import Derived.Test.YtpdlapdnjmoaoaaDoorCaL
namespace Go.Proofs.YtpdlapdnjmoaoaaDoor
open Go.ChangeShapes Go.WideShapes Go.ChangeAt Go.RowKit
theorem cells_scp : Tryd.prog.cellsOf 38 = 3 := by kernel_rfl
theorem cells_dig : Tryd.prog.cellsOf 40 = 1 := by kernel_rfl
theorem cells_ent : Tryd.prog.cellsOf 42 = 8 := by kernel_rfl
theorem cells_ents : Tryd.prog.cellsOf 22 = 1 := by kernel_rfl
theorem cells_cache : Tryd.prog.cellsOf 24 = 2 := by kernel_rfl
theorem wf_i64 {x : Int} (h : Lit.wf (.int .i64 x)) : I64 x := by simpa [Lit.wf, IntKind.min, IntKind.max, IntKind.signed, IntKind.bits, I64] using h
section
variable {H : Type} {enc : TypeId × Value → H} {W : World} {spare : Nat → Bool} {held : Bool}
set_option maxRecDepth 100000 in
theorem open_scp {n : Nat} {cs : List Value} {y : DataW H × List MemPlace} (hl : cs.length = 3) (h : DataW.trod enc Tryd.prog W 0 spare held n 38 cs = some y) :
    ∃ s : Scp, cs = (pcells s).toList ∧ s.prj.size ≤ 9223372036854775807 ∧ s.ref.size ≤ 9223372036854775807 ∧ I64 s.trust := by
  obtain ⟨xs, n', rfl, rfl, _, hxl, hf⟩ := DataW.trod_struct Tryd.underlying38 h
  match cs, hl with
  | [c0, c1, c2], _ =>
    match xs, hxl with
    | [y0, y1, y2], _ =>
      have f0 := field_one hf 0 (t := 9) (o := 0) rfl cells_str rfl rfl
      have f1 := field_one hf 1 (t := 3) (o := 1) rfl cells_int rfl rfl
      have f2 := field_one hf 2 (t := 9) (o := 2) rfl cells_str rfl rfl
      obtain ⟨s0, rfl, rfl, hs0⟩ := str_val Tryd.underlying9 f0
      obtain ⟨s1, rfl, rfl, hs1⟩ := int_val Tryd.underlying3 f1
      obtain ⟨s2, rfl, rfl, hs2⟩ := str_val Tryd.underlying9 f2
      unfold maxLen at hs0 hs2
      exact ⟨⟨s0, s1, s2⟩, rfl, by dsimp only; omega, by dsimp only; omega, wf_i64 hs1⟩
set_option maxRecDepth 100000 in
theorem open_ent {n : Nat} {cs : List Value} {y : DataW H × List MemPlace} (hl : cs.length = 8) (h : DataW.trod enc Tryd.prog W 0 spare held n 42 cs = some y) :
    ∃ x : Ent, cs = (ent8 x).toList ∧ x.text ∧ x.nums := by
  obtain ⟨xs, n', rfl, rfl, _, hxl, hf⟩ := DataW.trod_struct Tryd.underlying42 h
  match cs, hl with
  | [c0, c1, c2, c3, c4, c5, c6, c7], _ =>
    match xs, hxl with
    | [y0, y1, y2, y3, y4, y5], _ =>
      have f0 := field_wide hf 0 (t := 38) (o := 0) rfl cells_scp rfl
      have f1 := field_one hf 1 (t := 9) (o := 3) rfl cells_str rfl rfl
      have f2 := field_one hf 2 (t := 40) (o := 4) rfl cells_dig rfl rfl
      have f3 := field_one hf 3 (t := 3) (o := 5) rfl cells_int rfl rfl
      have f4 := field_one hf 4 (t := 3) (o := 6) rfl cells_int rfl rfl
      have f5 := field_one hf 5 (t := 3) (o := 7) rfl cells_int rfl rfl
      obtain ⟨s, e0, hp, hr, ht⟩ := open_scp (cs := [c0, c1, c2]) rfl f0
      obtain ⟨k, rfl, rfl, hk⟩ := str_val Tryd.underlying9 f1
      obtain ⟨d, rfl, rfl, wd⟩ := int_val Tryd.underlying40 f2
      obtain ⟨z, rfl, rfl, wz⟩ := int_val Tryd.underlying3 f3
      obtain ⟨c, rfl, rfl, wc⟩ := int_val Tryd.underlying3 f4
      obtain ⟨u, rfl, rfl, wu⟩ := int_val Tryd.underlying3 f5
      unfold maxLen at hk
      refine ⟨⟨s, k, d, z, c, u⟩, ?_, ⟨hp, hr, by dsimp only; omega⟩, ⟨ht, wf_i64 wz, wf_i64 wc, wf_i64 wu, ?_⟩⟩
      · show [c0, c1, c2] ++ _ = _
        rw [e0]
        rfl
      · simpa [Lit.wf, IntKind.min, IntKind.max, IntKind.signed, IntKind.bits] using wd
/-- one entry's cells -/
def rE : Rd Ent := fun _ _ x cs => cs = (ent8 x).toList ∧ x.text ∧ x.nums
theorem entsC_of {w : World} {S : Nat → Prop} : ∀ {l : List Ent} {cs : List Value}, RList rE 8 w S l cs → cs = entsC l ∧ (∀ x ∈ l, x.text) ∧ ∀ x ∈ l, x.nums
  | [], _, h => ⟨h, by simp, by simp⟩
  | x :: l, cs, h => by
    obtain ⟨c1, c2, rfl, _, ⟨rfl, h1, h2⟩, h3⟩ := h
    obtain ⟨rfl, h4, h5⟩ := entsC_of h3
    refine ⟨rfl, ?_, ?_⟩
    · intro a ha
      rcases List.mem_cons.1 ha with rfl | ha
      · exact h1
      · exact h4 a ha
    · intro a ha
      rcases List.mem_cons.1 ha with rfl | ha
      · exact h2
      · exact h5 a ha
theorem open_ents {fuel : Nat} {A : Option Addr} {len cap : Nat} {x : DataW H × List MemPlace} (h : DataW.trod enc Tryd.prog W 0 spare held fuel 22 [.slice A len cap] = some x) :
    ∃ l : List Ent, l.length = len ∧ (A = none → cap = 0) ∧ cap ≤ maxLen ∧ len ≤ cap ∧ Seq W W.heap.size 8 A len (entsC l) ∧ (∀ a ∈ l, a.text) ∧ ∀ a ∈ l, a.nums := by
  obtain ⟨l, ⟨h1, h2, h3, cs, h4, h5⟩, h6, _⟩ := open_list (r := rE) (sz := 8) (bulk := fun _ => 0) Tryd.underlying22 cells_ent (by omega) (fun n cs y _ hl hy => by
    obtain ⟨a, h1, h2⟩ := open_ent hl hy
    exact ⟨a, ⟨h1, h2⟩, Nat.zero_le _⟩) h
  obtain ⟨rfl, h7, h8⟩ := entsC_of h5
  exact ⟨l, h1, h3, h6, h2, h4, h7, h8⟩
set_option maxRecDepth 100000 in
theorem open_cache {n : Nat} {cs : List Value} {y : DataW H × List MemPlace} (hl : cs.length = 2) (h : DataW.trod enc Tryd.prog W 0 spare held n 24 cs = some y) :
    ∃ (z : Int) (l : List Ent) (A : Option Addr) (c : Nat), cs = [.int .i64 z, .slice A l.length c] ∧ I64 z ∧ l.length ≤ c ∧ c ≤ maxLen ∧ Seq W W.heap.size 8 A l.length (entsC l) ∧ (∀ a ∈ l, a.text) ∧ ∀ a ∈ l, a.nums := by
  obtain ⟨xs, n', rfl, rfl, _, hxl, hf⟩ := DataW.trod_struct Tryd.underlying24 h
  match cs, hl with
  | [c0, c1], _ =>
    match xs, hxl with
    | [y0, y1], _ =>
      have f0 := field_one hf 0 (t := 3) (o := 0) rfl cells_int rfl rfl
      have f1 := field_one hf 1 (t := 22) (o := 1) rfl cells_ents rfl rfl
      obtain ⟨z, rfl, rfl, hz⟩ := int_val Tryd.underlying3 f0
      obtain ⟨A, len, cap, rfl⟩ := slice_val Tryd.underlying22 f1
      obtain ⟨l, rfl, _, h2, h3, h4, h5, h6⟩ := open_ents f1
      exact ⟨z, l, A, cap, rfl, wf_i64 hz, h3, h2, h4, h5, h6⟩
end
end Go.Proofs.YtpdlapdnjmoaoaaDoor
