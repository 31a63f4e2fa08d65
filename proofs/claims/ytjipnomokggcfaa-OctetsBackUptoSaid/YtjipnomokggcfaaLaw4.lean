/- The law on fields: its walk. -/
import Derived.Test.YtjipnomokggcfaaSame
import Derived.Test.YtjipnomokggcfaaSmall
import Derived.Test.YtjipnomokggcfaaLaw1
namespace Go.Proofs.Ytjipnomokggcfaa
open Go.RowKit
set_option maxRecDepth 100000 in
set_option maxHeartbeats 800000 in
theorem fields_law (A : Option Addr) (n c : Nat) (l : List UInt8) (w : World) (hl : l.length = n) (hc : n ≤ c) (hm : n ≤ 9223372036854775807) (hs : Seq w w.heap.size 1 A n (l.map bv)) :
    Calls Try.prog 7 #[.slice A n c] w (Holds w) := by
  subst hl
  by_cases hn : 2000 < l.length
  · go_enter Try.func7, Try.ntmps7
    repeat' ((fail_if_success at_builtin); (first | go_skip | go_guarded | go_step))
    refine (lives_any _).mono ?_
    rintro e w1 ⟨rfl, hb⟩
    dsimp only
    repeat' ((fail_if_success at_builtin); (first | go_skip | go_guarded | go_step))
    go_ret
    exact ⟨rfl, hb⟩
  · have C1 := fields_any l A _ c w w.heap.size rfl (by omega) hc (Nat.le_refl _) hs
    have C2 := fun (w1 : World) (hb : Below w.heap.size w w1) => rfields_any l A _ c w1 w.heap.size rfl (by omega) hc hb.size (hs.below hb)
    have hsm := @fieldsS_small l
    generalize fieldsS l = T at C1 C2 hsm
    replace C1 := Lib.hid C1
    replace C2 := Lib.hid C2
    cases T with
    | inl er =>
      have C3 := fun (w1 : World) => same_any .nil none 0 [] none 0 [] w1 w1.heap.size (Nat.le_refl _) Seq.nil_ rfl Seq.nil_ rfl (by decide)
      replace C3 := Lib.hid C3
      go_enter Try.func7, Try.ntmps7
      repeat' ((fail_if_success at_builtin); (first | go_skip | go_guarded | go_step))
      refine C1.out.mono ?_
      rintro e w1 ⟨rfl, hb1⟩
      dsimp only
      repeat' ((fail_if_success at_builtin); (first | go_skip | go_guarded | go_step))
      refine (C2.out _ hb1).mono ?_
      rintro e w2 ⟨rfl, hb2⟩
      dsimp only
      repeat' ((fail_if_success at_builtin); (first | go_skip | go_guarded | go_step))
      refine (C3.out _).mono ?_
      rintro e w3 ⟨rfl, hb3⟩
      dsimp only
      repeat' ((fail_if_success at_builtin); (first | go_skip | go_guarded | go_step))
      refine (lives_any _).mono ?_
      rintro e w4 ⟨rfl, hb4⟩
      dsimp only
      repeat' ((fail_if_success at_builtin); (first | go_skip | go_guarded | go_step))
      go_ret
      have h12 := hb1.trans (hb2.mono hb1.size)
      have h13 := h12.trans (hb3.mono h12.size)
      exact ⟨rfl, h13.trans (hb4.mono h13.size)⟩
    | inr f =>
      have hsm := hsm rfl
      go_enter Try.func7, Try.ntmps7
      repeat' ((fail_if_success at_builtin); (first | go_skip | go_guarded | go_step))
      refine C1.out.mono ?_
      rintro e w1 ⟨A1, c1, cs1, rfl, h1, r1⟩
      have hb1 := h1.2
      have s1 := h1.seq
      have r1 : RepF w1 w1.heap.size f cs1 := r1.imp fun b hb => hb.2
      clear h1
      dsimp only
      repeat' ((fail_if_success at_builtin); (first | go_skip | go_guarded | go_step))
      refine (C2.out _ hb1).mono ?_
      rintro e w2 ⟨A2, c2, cs2, rfl, h2, r2⟩
      have hb2 := h2.2
      have C3 := same_any f A1 c1 cs1 A2 c2 cs2 w2 w2.heap.size (Nat.le_refl _) ((s1.below hb2).more hb2.size) ((r1.below hb2).more hb2.size) h2.seq (r2.imp fun b hb => hb.2) (by omega)
      replace C3 := Lib.hid C3
      clear h2 r2 s1 r1
      dsimp only
      repeat' ((fail_if_success at_builtin); (first | go_skip | go_guarded | go_step))
      refine C3.out.mono ?_
      rintro e w3 ⟨rfl, hb3⟩
      dsimp only
      repeat' ((fail_if_success at_builtin); (first | go_skip | go_guarded | go_step))
      refine (lives_any _).mono ?_
      rintro e w4 ⟨rfl, hb4⟩
      dsimp only
      repeat' ((fail_if_success at_builtin); (first | go_skip | go_guarded | go_step))
      go_ret
      have h12 := hb1.trans (hb2.mono hb1.size)
      have h13 := h12.trans (hb3.mono h12.size)
      exact ⟨rfl, h13.trans (hb4.mono h13.size)⟩
end Go.Proofs.Ytjipnomokggcfaa
