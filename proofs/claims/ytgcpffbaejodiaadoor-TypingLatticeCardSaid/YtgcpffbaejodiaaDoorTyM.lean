/- Types and values in memory. -/
import Derived.Test.YtgcpffbaejodiaaDoorRow
import Derived.Test.YtgcpffbaejodiaaDoorTyPure
namespace Go.Proofs.YtgcpffbaejodiaaDoor
open Go.RowKit
/-- a valid type's two cells -/
def RV (w : World) (S : Nat → Prop) : VT → List Value → Prop
  | .base k, cs => ∃ A c, cs = [.int .i64 (k : Int), .slice A 0 c] ∧ (A = none → c = 0)
  | .of k e, cs => ∃ b o c ds, cs = [.int .i64 (k : Int), .slice (some ⟨b, o, none⟩) 1 c] ∧ 1 ≤ c ∧ S b ∧ (∀ j u, ds[j]? = some u → w.cell? ⟨b, o + j, none⟩ = some u) ∧ RV w S e ds
theorem RV.map {w w' : World} {S S' : Nat → Prop} (hk : ∀ p : Addr, S p.block → w'.cell? p = w.cell? p) (hS : ∀ b, S b → S' b) : ∀ {v : VT} {cs : List Value}, RV w S v cs → RV w' S' v cs
  | .base _, _, h => h
  | .of k e, _, ⟨b, o, c, ds, h1, h2, h3, h4, h5⟩ => ⟨b, o, c, ds, h1, h2, hS b h3, fun j u hu => (hk ⟨b, o + j, none⟩ h3).trans (h4 j u hu), RV.map hk hS h5⟩
theorem RV.imp {w : World} {S S' : Nat → Prop} {v : VT} {cs : List Value} (h : RV w S v cs) (hS : ∀ b, S b → S' b) : RV w S' v cs := h.map (fun _ _ => rfl) hS
/-- .. below block B -/
abbrev RVB (w : World) (B : Nat) (v : VT) (cs : List Value) : Prop := RV w (fun b => b < B) v cs
theorem RVB.below {w w' : World} {B : Nat} {v : VT} {cs : List Value} (h : RVB w B v cs) (hb : Below B w w') : RVB w' B v cs := h.map (fun _ hp => hb.cell hp) fun _ h => h
theorem RVB.more {w : World} {B B' : Nat} {v : VT} {cs : List Value} (h : RVB w B v cs) (hB : B ≤ B') : RVB w B' v cs := h.imp fun _ hb => Nat.lt_of_lt_of_le hb hB
theorem RVB.step {w w' : World} {B : Nat} {v : VT} {cs : List Value} (h : RVB w B v cs) (hB : B ≤ w.heap.size) (hb : Below w.heap.size w w') : RVB w' B v cs := h.below (hb.mono hB)
theorem RV.form {w : World} {S : Nat → Prop} : ∀ {v : VT} {cs : List Value}, RV w S v cs → ∃ A n c, cs = [.int .i64 (v.kind : Int), .slice A n c]
  | .base k, _, ⟨A, c, h, _⟩ => ⟨A, 0, c, h⟩
  | .of k e, _, ⟨b, o, c, ds, h, _⟩ => ⟨_, 1, c, h⟩
theorem RV.len {w : World} {S : Nat → Prop} {v : VT} {cs : List Value} (h : RV w S v cs) : cs.length = 2 := by
  obtain ⟨A, n, c, rfl⟩ := h.form
  rfl
/-- any type; f: how deep it is at most -/
def RTf : Nat → Rd Ty
  | 0 => fun _ _ _ _ => False
  | f + 1 => fun w S t cs => ∃ A c, cs = [.int .i64 t.kind, .slice A t.elem.length c] ∧ RSlice (RTf f) 2 w S A t.elem.length c t.elem
theorem RTf_ok : ∀ f, RdOk (RTf f)
  | 0 => fun _ _ _ _ _ _ _ _ h => h.elim
  | f + 1 => by
    rintro w w' S S' t cs hk hS ⟨A, c, rfl, h1, h2, h3, ds, h4, h5⟩
    exact ⟨A, c, rfl, h1, h2, h3, ds, h4.map hk hS, RList.map (fun x ds' hd => RTf_ok f w w' S S' x ds' hk hS hd) h5⟩
theorem kind_ofV : ∀ v : VT, (ofV v).kind = (v.kind : Int)
  | .base _ => rfl
  | .of _ _ => rfl
/-- a type that is a valid one reads as such -/
theorem RTf.valid : ∀ {f : Nat} {v : VT} {w : World} {S : Nat → Prop} {cs : List Value}, RTf f w S (ofV v) cs → RV w S v cs
  | 0, _, _, _, _, h => h.elim
  | f + 1, .base k, w, S, cs, h => by
    obtain ⟨A, c, rfl, hs⟩ := h
    exact ⟨A, c, rfl, hs.2.2.1⟩
  | f + 1, .of k e, w, S, cs, h => by
    obtain ⟨A, c, rfl, hs⟩ := h
    obtain ⟨b, o, c1, rfl, hb, _, hr, hc⟩ := hs.at_ (i := 0) (x := ofV e) rfl
    refine ⟨b, o, c, c1, rfl, hs.2.1, hb, fun j u hu => ?_, RTf.valid hr⟩
    have := hc j u hu
    rwa [Nat.zero_mul, Nat.add_zero] at this
/-- a valid type is a type -/
theorem RV.ty : ∀ {v : VT} {w : World} {S : Nat → Prop} {cs : List Value}, RV w S v cs → RTf v.depth w S (ofV v) cs
  | .base k, w, S, cs, h => by
    obtain ⟨A, c, rfl, hn⟩ := h
    exact ⟨A, c, rfl, rfl, Nat.zero_le _, hn, [], SeqP.empty A, rfl⟩
  | .of k e, w, S, cs, h => by
    obtain ⟨b, o, c, ds, rfl, h1, hb, hc, hr⟩ := h
    refine ⟨some ⟨b, o, none⟩, c, rfl, rfl, h1, (fun h => by cases h), ds, ⟨hr.len, fun _ => ⟨b, o, rfl, hb, hc⟩⟩, ds, [], (by simp), hr.len, RV.ty hr, rfl⟩
/-- a value; f: how deep it is at most -/
def RVl : Nat → Rd Vl
  | 0 => fun _ _ _ _ => False
  | f + 1 => fun w S v cs => ∃ A c A2 c2, cs = [.int .i64 v.kind, .bool v.bool, .int .i64 v.int, .string v.str, .slice A v.list.length c, .slice A2 v.keys.length c2] ∧ RSlice (RVl f) 6 w S A v.list.length c v.list ∧ SeqP w S 1 A2 v.keys.length (v.keys.map Value.string) ∧ v.list.length ≤ 9223372036854775807
theorem RVl_ok : ∀ f, RdOk (RVl f)
  | 0 => fun _ _ _ _ _ _ _ _ h => h.elim
  | f + 1 => by
    rintro w w' S S' t cs hk hS ⟨A, c, A2, c2, rfl, ⟨h1, h2, h3, ds, h4, h5⟩, h6, h7⟩
    exact ⟨A, c, A2, c2, rfl, ⟨h1, h2, h3, ds, h4.map hk hS, RList.map (fun x ds' hd => RVl_ok f w w' S S' x ds' hk hS hd) h5⟩, h6.map hk hS, h7⟩
end Go.Proofs.YtgcpffbaejodiaaDoor
