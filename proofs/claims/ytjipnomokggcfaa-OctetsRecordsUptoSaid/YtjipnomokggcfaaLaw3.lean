/- The law on records: its walk. -/
import Derived.Test.YtjipnomokggcfaaLaw2
import Derived.Deep.RegionHeld3
namespace Go.Proofs.Ytjipnomokggcfaa
open Go.RowKit
/-- four cells of an old block are as they were -/
theorem keep4 {w w1 w2 : World} {b o B2 : Nat} {u1 u2 u3 u4 : Value} (hb : b < w.heap.size)
    (h : Below w.heap.size w w1 ∧ w1.cell? ⟨b, o, none⟩ = some u1 ∧ w1.cell? ⟨b, o + 1, none⟩ = some u2 ∧ w1.cell? ⟨b, o + 2, none⟩ = some u3 ∧ w1.cell? ⟨b, o + 3, none⟩ = some u4)
    (hc : Below B2 w1 w2) (hB2 : B2 = w1.heap.size) :
    Below w.heap.size w w2 ∧ w2.cell? ⟨b, o, none⟩ = some u1 ∧ w2.cell? ⟨b, o + 1, none⟩ = some u2 ∧ w2.cell? ⟨b, o + 2, none⟩ = some u3 ∧ w2.cell? ⟨b, o + 3, none⟩ = some u4 := by
  subst hB2
  obtain ⟨h0, h1, h2, h3, h4⟩ := h
  have hlt : b < w1.heap.size := Nat.lt_of_lt_of_le hb h0.size
  refine ⟨h0.trans (hc.mono h0.size), ?_, ?_, ?_, ?_⟩
  · rw [hc.cell (p := ⟨b, o, none⟩) hlt, h1]
  · rw [hc.cell (p := ⟨b, o + 1, none⟩) hlt, h2]
  · rw [hc.cell (p := ⟨b, o + 2, none⟩) hlt, h3]
  · rw [hc.cell (p := ⟨b, o + 3, none⟩) hlt, h4]
set_option maxRecDepth 100000 in
set_option maxHeartbeats 800000 in
theorem records_law (f : Flds) (A : Option Addr) (c : Nat) (cs : List Value) (w : World) (hnil : A = none → c = 0) (hseq : Seq w w.heap.size 4 A f.length cs) (hrep : RepF w w.heap.size f cs) (hsz : f.size ≤ 1000000000) :
    Calls Try.prog 3 #[.slice A f.length c] w (Holds w) := by
  have hlen := Flds.length_le_size f
  by_cases hn : 200 < f.length
  · go_enter Try.func3, Try.ntmps3
    repeat' ((fail_if_success at_builtin); (first | go_skip | go_guarded | go_step))
    refine (lives_any _).mono ?_
    rintro e w1 ⟨rfl, hb⟩
    dsimp only
    repeat' ((fail_if_success at_builtin); (first | go_skip | go_guarded | go_step))
    go_ret
    exact ⟨rfl, hb⟩
  · go_enter Try.func3, Try.ntmps3
    repeat' ((fail_if_success at_builtin); (first | go_skip | go_guarded | go_step))
    go_loopw [3] (fun u3 wr => ∃ i : Nat, i ≤ f.length ∧ u3 = .int .i64 (i : Int) ∧ Below w.heap.size w wr) (fun u3 _ => f.length - (intOf u3).toNat)
    case atStart => exact ⟨0, by omega, rfl, Below.refl _ _⟩
    case round =>
      obtain ⟨i, hi, rfl, hbr⟩ := hrel
      by_cases hlt : i < f.length
      · obtain ⟨⟨k, x, s, sub⟩, hg⟩ := Flds.get?_lt f i hlt
        obtain ⟨b, o, rfl, hbB, hcell⟩ := hseq.2 (by omega)
        obtain ⟨A', c', csub', g1, g2, g3, g4, hk', hx', hseq', hrep'⟩ := hrep.at_ hg
        have hcell' := fun j u hu => (hbr.cell (p := ⟨b, o + j, none⟩) hbB).trans (hcell j u hu)
        have e1 := hcell' _ _ g1
        have e2 := hcell' _ _ g2
        rw [← Nat.add_assoc] at e2
        have e3 := hcell' _ _ g3
        rw [← Nat.add_assoc] at e3
        have e4 := hcell' _ _ g4
        rw [← Nat.add_assoc] at e4
        clear hcell hcell' g1 g2 g3 g4
        have hsz' := Flds.get?_size f i hg
        have C1 := fun (w2 : World) (h : Below w.heap.size w w2 ∧ w2.cell? ⟨b, o + i * 4, none⟩ = some (.int .i64 k) ∧ w2.cell? ⟨b, o + i * 4 + 1, none⟩ = some (.int .i64 x) ∧ w2.cell? ⟨b, o + i * 4 + 2, none⟩ = some (.string s) ∧ w2.cell? ⟨b, o + i * 4 + 3, none⟩ = some (.slice A' sub.length c')) => Valid_any k x s sub A' c' csub' w2 w.heap.size h.1.size (hseq'.below h.1) (hrep'.below h.1) (by omega)
        have C2 := fun (w2 : World) (h : Below w.heap.size w w2 ∧ w2.cell? ⟨b, o + i * 4, none⟩ = some (.int .i64 k) ∧ w2.cell? ⟨b, o + i * 4 + 1, none⟩ = some (.int .i64 x) ∧ w2.cell? ⟨b, o + i * 4 + 2, none⟩ = some (.string s) ∧ w2.cell? ⟨b, o + i * 4 + 3, none⟩ = some (.slice A' sub.length c')) => rValid_any k x s sub A' c' csub' w2 w.heap.size h.1.size (hseq'.below h.1) (hrep'.below h.1) (by omega)
        replace C1 := Lib.hid C1
        replace C2 := Lib.hid C2
        have Hs := Lib.hid hseq; clear hseq
        have Hr := Lib.hid hrep; clear hrep
        clear hseq' hrep' hk' hx'
        have i0 : (0 : Int) ≤ (i : Int) := by omega
        have i1 : (i : Int) < (f.length : Int) := by omega
        repeat' ((fail_if_success at_builtin); (first | go_skip | go_guarded | go_step))
        have hS : Below w.heap.size w wr.drew ∧ wr.drew.cell? ⟨b, o + i * 4, none⟩ = some (.int .i64 k) ∧ wr.drew.cell? ⟨b, o + i * 4 + 1, none⟩ = some (.int .i64 x) ∧ wr.drew.cell? ⟨b, o + i * 4 + 2, none⟩ = some (.string s) ∧ wr.drew.cell? ⟨b, o + i * 4 + 3, none⟩ = some (.slice A' sub.length c') := ⟨hbr.drew, e1, e2, e3, e4⟩
        go_region_held3 (fun w' => Below w.heap.size w w' ∧ w'.cell? ⟨b, o + i * 4, none⟩ = some (.int .i64 k) ∧ w'.cell? ⟨b, o + i * 4 + 1, none⟩ = some (.int .i64 x) ∧ w'.cell? ⟨b, o + i * 4 + 2, none⟩ = some (.string s) ∧ w'.cell? ⟨b, o + i * 4 + 3, none⟩ = some (.slice A' sub.length c'))
          (first | exact hS | exact keep4 hbB (by assumption) hbq (by rfl))
          (first
            | (go_at_call 10; refine (C1.out _ (by assumption)).mono ?_; rintro e w7 ⟨rfl, hbq⟩)
            | (go_at_call 11; refine (C2.out _ (by assumption)).mono ?_; rintro e w7 ⟨rfl, hbq⟩))
        repeat' ((fail_if_success at_builtin); (first | go_skip | go_guarded | go_step))
        go_roundw
        case rel => exact ⟨i + 1, by omega, by go_num, And.left (by assumption)⟩
        case measure => simp [intOf]; omega
      · have Hs := Lib.hid hseq; clear hseq
        have Hr := Lib.hid hrep; clear hrep
        repeat' ((fail_if_success at_builtin); (first | go_skip | go_guarded | go_step))
        have C := record_any f A c cs wr w.heap.size hnil hbr.size (Hs.out.below hbr) (Hr.out.below hbr) hsz
        refine C.mono ?_
        rintro e w1 ⟨A1, c1, rfl, h1⟩
        have b1 := hbr.trans (h1.2.mono hbr.size)
        dsimp only
        repeat' ((fail_if_success at_builtin); (first | go_skip | go_guarded | go_step))
        refine (rRecord_any f A c cs w1 w.heap.size b1.size (Hs.out.below b1) (Hr.out.below b1) hsz).mono ?_
        rintro e w2 ⟨A2, c2, rfl, h2⟩
        have b2 := b1.trans (h2.2.mono b1.size)
        have s1 := (h1.seq.below h2.2).more h2.2.size
        have s2 := h2.seq
        clear h1 h2 b1 C
        dsimp only
        generalize Lib.uvarint f.length ++ encs (f.fix f.length) = L at s1 s2 ⊢
        repeat' ((fail_if_success at_builtin); (first | go_skip | go_guarded | go_step))
        refine (bytesEq_any A1 A2 _ c1 _ c2 L L w2 w2.heap.size s1 s2).mono ?_
        rw [BEq.rfl]
        rintro e w' ⟨rfl, rfl⟩
        dsimp only
        clear s1 s2
        repeat' ((fail_if_success at_builtin); (first | go_skip | go_guarded | go_step))
        refine (lives_any _).mono ?_
        rintro e w3 ⟨rfl, hb3⟩
        dsimp only
        repeat' ((fail_if_success at_builtin); (first | go_skip | go_guarded | go_step))
        go_ret
        exact ⟨rfl, b2.trans (hb3.mono b2.size)⟩
end Go.Proofs.Ytjipnomokggcfaa
