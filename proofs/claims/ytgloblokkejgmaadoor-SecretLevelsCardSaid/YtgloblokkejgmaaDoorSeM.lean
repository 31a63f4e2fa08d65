/- Secrets in memory. -/
import Derived.Test.YtgloblokkejgmaaDoorRow
import Derived.Test.YtgloblokkejgmaaDoorSeP
namespace Go.Proofs.YtgloblokkejgmaaDoor
open Go.RowKit
/-- a slice of strings that reads as l -/
structure StrsR (w : World) (S : Nat → Prop) (A : Option Addr) (c : Nat) (l : List ByteArray) : Prop where
  seq : SeqP w S 1 A l.length (l.map Value.string)
  cap : l.length ≤ c
  nil : A = none → c = 0
theorem StrsR.map {w w' : World} {S S' : Nat → Prop} {A : Option Addr} {c : Nat} {l : List ByteArray} (h : StrsR w S A c l) (hk : ∀ p : Addr, S p.block → w'.cell? p = w.cell? p) (hS : ∀ b, S b → S' b) : StrsR w' S' A c l := ⟨h.seq.map hk hS, h.cap, h.nil⟩
theorem StrsR.imp {w : World} {S S' : Nat → Prop} {A : Option Addr} {c : Nat} {l : List ByteArray} (h : StrsR w S A c l) (hS : ∀ b, S b → S' b) : StrsR w S' A c l := h.map (fun _ _ => rfl) hS
theorem StrsR.below {w w' : World} {B : Nat} {A : Option Addr} {c : Nat} {l : List ByteArray} (h : StrsR w (fun b => b < B) A c l) (hb : Below B w w') : StrsR w' (fun b => b < B) A c l := h.map (fun _ hp => hb.cell hp) fun _ h => h
/-- the blocks from lo on -/
abbrev Lo (lo : Nat) (w : World) (b : Nat) : Prop := lo ≤ b ∧ b < w.heap.size
/-- a secret's cells -/
abbrev secC (s : Sec) (A1 : Option Addr) (c1 : Nat) (A2 : Option Addr) (c2 : Nat) : List Value := [.string s.name, .string s.text, .int .i64 s.level, .slice A1 s.refs.length c1, .slice A2 s.envs.length c2]
def rSec : Rd Sec := fun w S s cs => ∃ A1 c1 A2 c2, cs = secC s A1 c1 A2 c2 ∧ StrsR w S A1 c1 s.refs ∧ StrsR w S A2 c2 s.envs
theorem rSec_ok : RdOk rSec := by
  rintro w w' S S' x cs hk hS ⟨A1, c1, A2, c2, rfl, h1, h2⟩
  exact ⟨A1, c1, A2, c2, rfl, h1.map hk hS, h2.map hk hS⟩
theorem rSec_len {w : World} {S : Nat → Prop} {x : Sec} {cs : List Value} (h : rSec w S x cs) : cs.length = 5 := by
  obtain ⟨_, _, _, _, rfl, _⟩ := h
  rfl
theorem rSec_one {w : World} {S : Nat → Prop} {x : Sec} {cs : List Value} (h : rSec w S x cs) : ∀ u ∈ cs, u.oneCell' = true := by
  obtain ⟨_, _, _, _, rfl, _⟩ := h
  intro u hu
  simp at hu
  rcases hu with rfl | rfl | rfl | rfl | rfl <;> rfl
/-- a secret at a place -/
structure SecAt (w : World) (S : Nat → Prop) (b o : Nat) (x : Sec) (A1 : Option Addr) (c1 : Nat) (A2 : Option Addr) (c2 : Nat) : Prop where
  e0 : w.cell? ⟨b, o, none⟩ = some (.string x.name)
  e1 : w.cell? ⟨b, o + 1, none⟩ = some (.string x.text)
  e2 : w.cell? ⟨b, o + 2, none⟩ = some (.int .i64 x.level)
  e3 : w.cell? ⟨b, o + 3, none⟩ = some (.slice A1 x.refs.length c1)
  e4 : w.cell? ⟨b, o + 4, none⟩ = some (.slice A2 x.envs.length c2)
  refs : StrsR w S A1 c1 x.refs
  envs : StrsR w S A2 c2 x.envs
theorem sec_at {w : World} {S : Nat → Prop} {A : Option Addr} {n c i : Nat} {l : List Sec} {x : Sec} (h : RSlice rSec 5 w S A n c l) (hx : l[i]? = some x) : ∃ b o A1 c1 A2 c2, A = some ⟨b, o, none⟩ ∧ S b ∧ SecAt w S b (o + i * 5) x A1 c1 A2 c2 := by
  obtain ⟨b, o, cs, hA, hb, _, ⟨A1, c1, A2, c2, rfl, h1, h2⟩, hc⟩ := h.at_ hx
  exact ⟨b, o, A1, c1, A2, c2, hA, hb, hc 0 _ rfl, hc 1 _ rfl, hc 2 _ rfl, hc 3 _ rfl, hc 4 _ rfl, h1, h2⟩
theorem SecAt.below {w w' : World} {B b o : Nat} {x : Sec} {A1 : Option Addr} {c1 : Nat} {A2 : Option Addr} {c2 : Nat} (h : SecAt w (fun b => b < B) b o x A1 c1 A2 c2) (hb : b < B) (hw : Below B w w') : SecAt w' (fun b => b < B) b o x A1 c1 A2 c2 :=
  ⟨(hw.cell (p := ⟨b, o, none⟩) hb).trans h.e0, (hw.cell (p := ⟨b, o + 1, none⟩) hb).trans h.e1, (hw.cell (p := ⟨b, o + 2, none⟩) hb).trans h.e2, (hw.cell (p := ⟨b, o + 3, none⟩) hb).trans h.e3, (hw.cell (p := ⟨b, o + 4, none⟩) hb).trans h.e4, h.refs.below hw, h.envs.below hw⟩
end Go.Proofs.YtgloblokkejgmaaDoor
