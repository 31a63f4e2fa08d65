/- Secret: all. -/
import Derived.Test.YtgloblokkejgmaaDoorSeW
namespace Go.Proofs.YtgloblokkejgmaaDoor
open Go.RowKit
/-- sizes of a secret -/
structure SecW (x : Sec) : Prop where
  name : x.name.size ≤ 1000000
  text : x.text.size ≤ 1000000
  refs : x.refs.length ≤ 1000000
  envs : x.envs.length ≤ 1000000
  refe : ∀ s ∈ x.refs, s.size ≤ 800000
  enve : ∀ s ∈ x.envs, s.size ≤ 800000
abbrev secT : TypeId := 24
theorem rSec_RdOne : RdOne rSec := fun _ _ _ _ h => rSec_one h
theorem sec_rd {w : World} {S : Nat → Prop} {x : Sec} {A1 : Option Addr} {c1 : Nat} {A2 : Option Addr} {c2 : Nat} (h1 : StrsR w S A1 c1 x.refs) (h2 : StrsR w S A2 c2 x.envs) : rSec w S x [.string x.name, .string x.text, .int .i64 x.level, .slice A1 x.refs.length c1, .slice A2 x.envs.length c2] := ⟨A1, c1, A2, c2, rfl, h1, h2⟩
/-- the list of secrets that an argument is -/
structure Secs (w : World) (A : Option Addr) (n c : Nat) (l : List Sec) : Prop where
  rd : RSlice rSec 5 w (fun b => b < w.heap.size) A n c l
  len : l.length ≤ 1000000
  each : ∀ x ∈ l, SecW x
theorem Secs.below {w w' : World} {A : Option Addr} {n c : Nat} {l : List Sec} (h : Secs w A n c l) (hb : Below w.heap.size w w') : Secs w' A n c l :=
  ⟨(h.rd.below rSec_ok hb).more rSec_ok (fun _ hp => Nat.lt_of_lt_of_le hp hb.size), h.len, h.each⟩
theorem Secs.n {w : World} {A : Option Addr} {n c : Nat} {l : List Sec} (h : Secs w A n c l) : l.length = n := h.rd.1
set_option maxRecDepth 100000 in
set_option maxHeartbeats 2000000 in
theorem all_any (l : List Sec) (A : Option Addr) (n c : Nat) (w : World) (h : Secs w A n c l) :
    Calls Tryd.prog 32 #[.slice A n c] w fun e w' => ∃ A' c', e = .returned (.slice A' n c') ∧ OwnR rSec 5 w w' secT (.slice A' n c') l := by
  go_enter Tryd.func32, Tryd.ntmps32
  have hn := h.n
  have hl := h.len
  replace hn := Lib.hid hn
  have h0 := OwnR.nil (r := rSec) (sz := 5) w secT
  repeat' ((fail_if_success at_builtin); (first | go_skip | go_guarded | go_step))
  go_loopw [3, 8] (fun u3 u8 wr => ∃ (i : Nat) (A' : Option Addr) (c' : Nat), i ≤ n ∧ u8 = .int .i64 (i : Int) ∧ u3 = .slice A' i c' ∧ OwnR rSec 5 w wr secT (.slice A' i c') (l.take i)) (fun _ u8 _ => n - (intOf u8).toNat)
  case atStart => exact ⟨0, none, 0, by omega, rfl, rfl, by simpa using h0⟩
  case round =>
    clear h0
    obtain ⟨i, A', c', hi, rfl, rfl, hO⟩ := hrel
    have i0 : (0 : Int) ≤ (i : Int) := by omega
    have i2 : IntKind.i64.wrap ((i : Int) + 1) = (i : Int) + 1 := IntWalk.i64_in _ (by have := hn.out; omega)
    by_cases hlt : i < n
    · have i1 : (i : Int) < (n : Int) := by omega
      obtain ⟨x, hx⟩ : ∃ x, l[i]? = some x := ⟨_, List.getElem?_eq_getElem (by have := hn.out; omega)⟩
      have hxm := h.each x (List.mem_of_getElem? hx)
      obtain ⟨g, o, A1, c1, A2, c2, rfl, hg, hS⟩ := sec_at h.rd hx
      have hbl := hO.bel
      have hS2 := hS.below hg hbl
      have e0 := hS2.e0
      have e1 := hS2.e1
      have e2 := hS2.e2
      have e3 := hS2.e3
      have e4 := hS2.e4
      have hz := hbl.size
      have hnx : l.take i ++ [x] = l.take (i + 1) := by rw [List.take_add_one, hx]; rfl
      have hli : (l.take i).length = i := by rw [List.length_take]; have := hn.out; omega
      replace hnx := Lib.hid hnx
      clear hx hS
      go_upto_region 5 with (fail)
      have hb1 := (Below.refl wr.heap.size wr).alloc (Nat.le_refl _) (.cells #[.string x.name, .string x.text, .int .i64 x.level, .slice A1 x.refs.length c1, .slice A2 x.envs.length c2] secT)
      have hr1 := hS2.refs.map (w' := wr.alloc (.cells #[.string x.name, .string x.text, .int .i64 x.level, .slice A1 x.refs.length c1, .slice A2 x.envs.length c2] secT)) (fun _ hp => hb1.cell (Nat.lt_of_lt_of_le hp hz)) (S' := fun b => b < (wr.alloc (.cells #[.string x.name, .string x.text, .int .i64 x.level, .slice A1 x.refs.length c1, .slice A2 x.envs.length c2] secT)).heap.size) (fun b hb => Nat.lt_of_lt_of_le hb (Nat.le_trans hz hb1.size))
      have hr2 := hS2.envs.map (w' := wr.alloc (.cells #[.string x.name, .string x.text, .int .i64 x.level, .slice A1 x.refs.length c1, .slice A2 x.envs.length c2] secT)) (fun _ hp => hb1.cell (Nat.lt_of_lt_of_le hp hz)) (S' := fun b => b < (wr.alloc (.cells #[.string x.name, .string x.text, .int .i64 x.level, .slice A1 x.refs.length c1, .slice A2 x.envs.length c2] secT)).heap.size) (fun b hb => Nat.lt_of_lt_of_le hb (Nat.le_trans hz hb1.size))
      have hC1 := CellsAt.new wr #[.string x.name, .string x.text, .int .i64 x.level, .slice A1 x.refs.length c1, .slice A2 x.envs.length c2] secT
      generalize hx_ : World.alloc wr _ = w1 at hb1 hr1 hr2 hC1 ⊢
      clear hx_ e0 e1 e2 e3 e4 hS2
      have e0 := hC1.cell 0 _ rfl
      have e1 := hC1.cell 1 _ rfl
      have e2 := hC1.cell 2 _ rfl
      have e3 := hC1.cell 3 _ rfl
      have e4 := hC1.cell 4 _ rfl
      have C := copied_any x A1 c1 A2 c2 w1 hr1 hr2 (by have := hxm.refs; omega) (by have := hxm.envs; omega)
      replace C := Lib.hid C
      repeat' ((fail_if_success at_builtin); (first | go_skip | go_guarded | go_step))
      refine C.out.mono ?_
      clear C
      rintro e w2 ⟨B1, d1, B2, d2, rfl, hs1, hs2, hb2⟩
      dsimp only
      have hb3 := hb1.trans (hb2.mono hb1.size)
      have hbe : ∀ b, Lo w1.heap.size w2 b → Beh w2 (.slice A' i c') b := fun b hb => ⟨hb.2, fun e => by
        obtain ⟨ds, H1, _⟩ := hO
        have := (H1.1.lt b e.symm).2
        have := hb1.size
        have := hb.1
        omega⟩
      have hby : ((l.take i).length + 1) * 88 ≤ 140737488355328 := by rw [hli]; have := hn.out; omega
      have hrd := sec_rd (hs1.imp hbe) (hs2.imp hbe)
      clear hr1 hr2 hC1 e0 e1 e2 e3 e4 hbe
      repeat' ((fail_if_success at_builtin); (first | go_skip | go_guarded | go_step))
      refine wp_appR1 rSec_ok (v := .slice A' i c') hO hb3 hrd Tryd.underlying27 sec_info hby ?_
      intro v w4 hO4
      obtain ⟨A4, c4, rfl⟩ := hO4.form
      have hl4 : (l.take i ++ [x]).length = i + 1 := by simp [hli]
      rw [hl4, hnx.out] at hO4
      rw [hl4]
      clear hO hrd hs1 hs2
      replace hO4 := Lib.hid hO4
      repeat' ((fail_if_success at_builtin); (first | go_skip | go_guarded | go_step))
      go_roundw
      case rel => exact ⟨i + 1, A4, c4, by omega, by first | rfl | go_num, rfl, hO4.out⟩
      case measure => (try go_num); (try simp [intOf]); (try omega)
    · have hin : i = n := by omega
      subst hin
      have i1 : ¬ (i : Int) < (i : Int) := by omega
      replace hO := Lib.hid hO
      repeat' ((fail_if_success at_builtin); (first | go_skip | go_guarded | go_step))
      go_ret
      refine ⟨A', c', rfl, ?_⟩
      have := hO.out
      rw [List.take_of_length_le (by rw [hn.out]; exact Nat.le_refl _)] at this
      exact this
end Go.Proofs.YtgloblokkejgmaaDoor
