/- lives: its contract. -/
import Derived.Test.YtjipnomokggcfaaRRec
namespace Go.Proofs.Ytjipnomokggcfaa
open Go.RowKit
def liveF : Flds := .cons 0 5 ByteArray.empty .nil (.cons 2 0 ByteArray.empty (.cons 1 0 ⟨#[97]⟩ .nil .nil) .nil)
theorem uv_small {n : Nat} (h : n < 128) : Lib.uvarint n = [n.toUInt8] := Lib.uvarint_small h
theorem live_rec : Lib.uvarint liveF.length ++ encs (liveF.fix liveF.length) = [2, 0, 10, 2, 1, 1, 1, 97] := by
  have h1 : liveF.length = 2 := rfl
  have hc0 : vone 1 0 5 ByteArray.empty .nil = 0 := by simp [vone, clean, Flds.length, vld]
  have hc1 : vone 1 2 0 ByteArray.empty (.cons 1 0 ⟨#[97]⟩ .nil .nil) = 0 := by simp [vone, clean, Flds.length, vld]
  rw [h1]
  simp only [liveF, Flds.fix, hc0, hc1, if_true, encs, Flds.length]
  rw [uv_small (n := 2) (by omega), uv_small (n := Lib.zigzag 5) (by decide), uv_small (n := 1) (by omega), uv_small (n := ByteArray.size ⟨#[97]⟩) (by decide)]
  rfl
theorem live_put : Lib.uvarint (Lib.zigzag (-2)) = [3] := by rw [show Lib.zigzag (-2) = 3 from rfl, uv_small (by omega)]; rfl
theorem live_take : takeU [172, 2] = (300, 2, 0) := by decide
abbrev lc1 : Array Value := #[.int .i64 1, .int .i64 0, .string ⟨#[97]⟩, .slice none 0 0]
abbrev lc2 (g : Nat) : Array Value := #[.int .i64 0, .int .i64 5, .string ⟨#[]⟩, .slice none 0 0, .int .i64 2, .int .i64 0, .string ⟨#[]⟩, .slice (some ⟨g, 0, none⟩) 1 1]
theorem live_rep (w : World) : let w2 := (w.alloc (.cells lc1 27)).alloc (.cells (lc2 w.heap.size) 27)
    Below w.heap.size w w2 ∧ Seq w2 w2.heap.size 4 (some ⟨w.heap.size + 1, 0, none⟩) 2 (lc2 w.heap.size).toList ∧ RepF w2 w2.heap.size liveF (lc2 w.heap.size).toList := by
  have h1 := Own.lit (Below.refl _ w) (cs := lc1) (e := 27) (sz := 4) (n := 1) rfl (by omega)
  have h2 := Own.lit (W0 := w) (w := w.alloc (.cells lc1 27)) ((Below.refl _ w).alloc (Nat.le_refl _) _) (cs := lc2 w.heap.size) (e := 27) (sz := 4) (n := 2) rfl (by omega)
  rw [World.size_alloc] at h2
  have hs1 := h1.seq
  have hb : Below (w.alloc (.cells lc1 27)).heap.size (w.alloc (.cells lc1 27)) ((w.alloc (.cells lc1 27)).alloc (.cells (lc2 w.heap.size) 27)) := (Below.refl _ _).alloc (Nat.le_refl _) _
  have hs1 := (hs1.below hb).more hb.size
  have i0 : ∀ x : Int, 0 ≤ x → x ≤ 10 → IsInt x := fun x _ _ => ⟨by omega, by omega⟩
  refine ⟨h2.2, h2.seq, none, 0, _, [], rfl, i0 _ (by omega) (by omega), i0 _ (by omega) (by omega), Seq.nil_, rfl, some ⟨w.heap.size, 0, none⟩, 1, _, lc1.toList, rfl, i0 _ (by omega) (by omega), i0 _ (by omega) (by omega), hs1, ?_, rfl⟩
  exact ⟨none, 0, _, [], rfl, i0 _ (by omega) (by omega), i0 _ (by omega) (by omega), Seq.nil_, rfl, rfl⟩
set_option maxRecDepth 100000 in
set_option maxHeartbeats 400000 in
theorem lives_any (w : World) : Calls Try.prog 9 #[] w fun e w' => e = .returned (.bool true) ∧ Below w.heap.size w w' := by
  have L := live_rep w
  dsimp only at L
  obtain ⟨hb, hseq, hrep⟩ := L
  have C := record_any liveF _ 2 _ _ _ (fun h => by cases h) (Nat.le_refl _) hseq hrep (by decide)
  rw [live_rec] at C
  have Hc := Lib.hid C; clear C hseq hrep
  have Hb := Lib.hid hb; clear hb
  go_enter Try.func9, Try.ntmps9
  repeat' ((fail_if_success at_builtin); (first | go_skip | go_guarded | go_step))
  refine Hc.out.mono ?_
  rintro e w3 ⟨A3, c3, rfl, h3⟩
  have Hb3 := Lib.hid (Hb.out.trans (h3.2.mono Hb.out.size))
  dsimp only
  repeat' ((fail_if_success at_builtin); (first | go_skip | go_guarded | go_step))
  have h4 := Own.lit Hb3.out (cs := #[.int .u8 172, .int .u8 2]) (e := 5) (sz := 1) (n := 2) rfl (by omega)
  refine (takeUint_any _ 2 2 [172, 2] _ _ rfl (by omega) h4.seq).mono ?_
  rw [live_take]
  unfold trip
  rintro e w' ⟨rfl, rfl⟩
  dsimp only
  have h5 := h3.seq.below ((Below.refl _ _).alloc (Nat.le_refl _) (.cells #[.int .u8 172, .int .u8 2] 5))
  have h6 := run_bytes_str (P := Try.prog) (n := 8) (l := [2, 0, 10, 2, 1, 1, 1, 97]) (src := 30) (dst := 9) (c := c3) h5 Try.underlying30 Try.underlying5 Try.underlying9
  have Hb4 := Lib.hid h4.2
  clear h3 h4 h5
  repeat' ((fail_if_success at_builtin); (first | go_skip | go_guarded | go_step))
  refine (putInt_any (-2) _ (by omega) (by omega)).mono ?_
  rw [live_put]
  rintro e w5 ⟨A5, c5, rfl, h5⟩
  have Hb5 := Lib.hid (Hb4.out.trans (h5.2.mono Hb4.out.size))
  have h6 := run_bytes_str (P := Try.prog) (n := 1) (l := [3]) (src := 30) (dst := 9) (c := c5) h5.seq Try.underlying30 Try.underlying5 Try.underlying9
  clear h5
  dsimp only
  repeat' ((fail_if_success at_builtin); (first | go_skip | go_guarded | go_step))
  go_ret
  exact ⟨rfl, Hb5.out⟩
end Go.Proofs.Ytjipnomokggcfaa
