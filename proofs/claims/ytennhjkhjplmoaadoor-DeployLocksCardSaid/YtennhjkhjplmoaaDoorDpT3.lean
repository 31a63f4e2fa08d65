/- Deploy: Locks: expected. -/
import Derived.Test.YtennhjkhjplmoaaDoorDpT3a
import Derived.Test.YtennhjkhjplmoaaDoorDpT3b
import Derived.Test.YtennhjkhjplmoaaDoorDpT3c
import Derived.Test.YtennhjkhjplmoaaDoorDpT3d
namespace Go.Proofs.YtennhjkhjplmoaaDoor
open Go.RowKit
theorem expected_any (kd pl jb : Nat) (hpl : pl < 256) (p : Turn × Turn) (A1 : Option Addr) (c1 : Nat) (A2 : Option Addr) (c2 : Nat) (B1 : Option Addr) (d1 : Nat) (B2 : Option Addr) (d2 : Nat) (j : ByteArray) (w : World) (S0 : Nat → Prop) (hS0 : ∀ x, S0 x → x < w.heap.size) (h : TwoS S0 w p A1 c1 A2 c2 B1 d1 B2 d2) (hl1 : p.1.waiting.length ≤ 100000) (hl2 : p.2.waiting.length ≤ 100000) (hl3 : p.1.held.length ≤ 100000) (hl4 : p.2.held.length ≤ 100000) (Q : (Turn × Turn) × Bool) (hQ : Q = expT (kd % 4) (pl % 2 == 1) j p) :
    Calls Tryd.prog 24 #[.agg #[.string p.1.holder, .slice A1 p.1.waiting.length c1, .slice A2 p.1.held.length c2, .string p.2.holder, .slice B1 p.2.waiting.length d1, .slice B2 p.2.held.length d2], .agg #[.int .u8 (kd : Int), .int .u8 (pl : Int), .int .u8 (jb : Int)], .string j] w fun e w' => ∃ (A1' : Option Addr) (c1' : Nat) (A2' : Option Addr) (c2' : Nat) (B1' : Option Addr) (d1' : Nat) (B2' : Option Addr) (d2' : Nat), e = .returned (.tuple #[.agg #[.string Q.1.1.holder, .slice A1' Q.1.1.waiting.length c1', .slice A2' Q.1.1.held.length c2', .string Q.1.2.holder, .slice B1' Q.1.2.waiting.length d1', .slice B2' Q.1.2.held.length d2'], .bool Q.2]) ∧ Below w.heap.size w w' ∧ TwoS (fun x => x < w'.heap.size ∧ (S0 x ∨ w.heap.size ≤ x)) w' Q.1 A1' c1' A2' c2' B1' d1' B2' d2' := by
  have hw : wrap64 (pl : Int) = (pl : Int) := IntWalk.wrap64_in _ ⟨by omega, by omega⟩
  have hp : (wrap64 (pl : Int)).tmod 2 = ((pl % 2 : Nat) : Int) := by rw [hw, Int.tmod_eq_emod_of_nonneg (by omega)]; omega
  have hk : (kd : Int).tmod 4 = ((kd % 4 : Nat) : Int) := by rw [Int.tmod_eq_emod_of_nonneg (by omega)]; omega
  have h4 : kd % 4 < 4 := Nat.mod_lt _ (by decide)
  have h2 : pl % 2 < 2 := Nat.mod_lt _ (by decide)
  generalize kd % 4 = m at *
  generalize pl % 2 = k at *
  match m, k, h4, h2 with
  | 0, 0, _, _ => exact exp00_any kd pl jb p A1 c1 A2 c2 B1 d1 B2 d2 j w S0 hS0 h hl1 hl2 hl3 hl4 hk hp Q hQ
  | 0, 1, _, _ => exact exp01_any kd pl jb p A1 c1 A2 c2 B1 d1 B2 d2 j w S0 hS0 h hl1 hl2 hl3 hl4 hk hp Q hQ
  | 1, 0, _, _ => exact exp10_any kd pl jb p A1 c1 A2 c2 B1 d1 B2 d2 j w S0 hS0 h hl1 hl2 hl3 hl4 hk hp Q hQ
  | 1, 1, _, _ => exact exp11_any kd pl jb p A1 c1 A2 c2 B1 d1 B2 d2 j w S0 hS0 h hl1 hl2 hl3 hl4 hk hp Q hQ
  | 2, 0, _, _ => exact exp20_any kd pl jb p A1 c1 A2 c2 B1 d1 B2 d2 j w S0 hS0 h hl1 hl2 hl3 hl4 hk hp Q hQ
  | 2, 1, _, _ => exact exp21_any kd pl jb p A1 c1 A2 c2 B1 d1 B2 d2 j w S0 hS0 h hl1 hl2 hl3 hl4 hk hp Q hQ
  | 3, 0, _, _ => exact exp30_any kd pl jb p A1 c1 A2 c2 B1 d1 B2 d2 j w S0 hS0 h hl1 hl2 hl3 hl4 hk hp Q hQ
  | 3, 1, _, _ => exact exp31_any kd pl jb p A1 c1 A2 c2 B1 d1 B2 d2 j w S0 hS0 h hl1 hl2 hl3 hl4 hk hp Q hQ
end Go.Proofs.YtennhjkhjplmoaaDoor
