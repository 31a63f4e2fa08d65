/- Cache: without; the document's Save. -/
import Derived.Test.YtpdlapdnjmoaoaaDoorCaP
namespace Go.Proofs.YtpdlapdnjmoaoaaDoor
open Go.RowKit
set_option maxRecDepth 100000 in
set_option maxHeartbeats 1000000 in
theorem without_any (l : List Ent) (A : Option Addr) (n c i : Nat) (w : World) (hn : n = l.length) (hs : Seq w w.heap.size 8 A n (entsC l)) (hc : n ≤ c) (hi : i < n) (hl : n ≤ 1000000) :
    Calls Tryd.prog 45 #[.slice A n c, .int .i64 (i : Int)] w fun e w' => ∃ A' c', e = .returned (.slice A' (n - 1) c') ∧ Own w w' 42 8 (.slice A' (n - 1) c') (n - 1) (entsC (l.eraseIdx i)) ∧ n - 1 ≤ c' := by
  have hE : (l.eraseIdx i).length = n - 1 := by rw [List.length_eraseIdx_of_lt (by omega), hn]
  obtain ⟨b, o, rfl, hbB, hcell⟩ := hs.2 (by omega)
  have s1 : Seq w w.heap.size 8 (some ⟨b, o, none⟩) i (entsC (l.take i)) := by
    refine ⟨by rw [entsC_len, List.length_take]; omega, fun _ => ⟨b, o, rfl, hbB, fun j u hu => hcell j u ?_⟩⟩
    have hj := (List.getElem?_eq_some_iff.1 hu).1
    rw [entsC_len, List.length_take] at hj
    rw [← entsC_take l i j (by omega) (by omega)]
    exact hu
  have s2 : Seq w w.heap.size 8 (if c = i + 1 then some ⟨b, o, none⟩ else some ⟨b, o + (i + 1) * 8, none⟩) (n - (i + 1)) (entsC (l.drop (i + 1))) := by
    have := hs.cut (k := i + 1) (cap := c) (by omega) hc
    have he : (entsC l).drop ((i + 1) * 8) = entsC (l.drop (i + 1)) := by
      apply List.ext_getElem?
      intro j
      rw [List.getElem?_drop, entsC_drop l (i + 1) j (by omega)]
    rw [he] at this
    simpa [Addr.add_lit] using this
  have h0 := Own.nil_ w 42 8
  have hby1 : (0 + i) * 88 ≤ 140737488355328 := by omega
  have hby2 : (i + (n - (i + 1))) * 88 ≤ 140737488355328 := by omega
  have hlist : entsC (l.take i) ++ entsC (l.drop (i + 1)) = entsC (l.eraseIdx i) := by rw [← entsC_app, List.eraseIdx_eq_take_drop_succ]
  have i0 : (0 : Int) ≤ (i : Int) := by omega
  have i1 : (i : Int) ≤ (c : Int) := by omega
  have i2 : IntKind.i64.wrap ((i : Int) + 1) = (i : Int) + 1 := IntWalk.i64_in _ (by omega)
  have i3 : (i : Int) + 1 ≤ (n : Int) := by omega
  have i4 : (n : Int) ≤ (c : Int) := by omega
  have i5 : (0 : Int) ≤ (i : Int) + 1 := by omega
  replace s1 := Lib.hid s1
  replace s2 := Lib.hid s2
  replace hlist := Lib.hid hlist
  replace hE := Lib.hid hE
  clear hs hcell hn
  go_enter Tryd.func45, Tryd.ntmps45
  repeat' ((fail_if_success at_builtin); (first | go_skip | go_guarded | go_step))
  refine wp_appS h0 Tryd.underlying22 ent_info s1.out (ents_one _) hby1 ?_
  intro v w2 ho hg
  rw [Nat.zero_add, List.nil_append] at ho
  obtain ⟨A2, c2, rfl⟩ := ho.slice_form
  have s3 := Lib.hid (s2.out.below ho.2)
  repeat' ((fail_if_success at_builtin); (first | go_skip | go_guarded | go_step))
  refine wp_appS ho Tryd.underlying22 ent_info s3.out (ents_one _) hby2 ?_
  intro v w3 ho3 hg3
  obtain ⟨A3, c3, rfl⟩ := ho3.slice_form
  rw [show i + (n - (i + 1)) = n - 1 from by omega]
  rw [hlist.out, show i + (n - (i + 1)) = n - 1 from by omega] at ho3
  have hcap := ho3.cap_le
  replace ho3 := Lib.hid ho3
  replace hcap := Lib.hid hcap
  repeat' ((fail_if_success at_builtin); (first | go_skip | go_guarded | go_step))
  go_ret
  exact ⟨A3, c3, by rw [← show i + (n - (i + 1)) = n - 1 from by omega]; rfl, ho3.out, hcap.out⟩
end Go.Proofs.YtpdlapdnjmoaoaaDoor
