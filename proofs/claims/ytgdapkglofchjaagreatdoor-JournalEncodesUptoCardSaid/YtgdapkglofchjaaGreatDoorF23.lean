/- Joined: Str JnU0. -/
import Derived.Test.YtgdapkglofchjaaGreatDoorF22
set_option maxRecDepth 100000
set_option maxHeartbeats 200000
set_option linter.unusedVariables false
namespace Go.Proofs.YtgdapkglofchjaaGreatDoor
open Go.RowKit
theorem bytesEq_any (A A' : Option Addr) (n c n' c' : Nat) (l l' : List UInt8) (w : World) (B : Nat) (hs : Seq w B 1 A n (l.map bv)) (hs' : Seq w B 1 A' n' (l'.map bv)) :
  Calls Tryz.prog 14 #[.slice A n c, .slice A' n' c'] w fun e w' => e = .returned (.bool (l == l')) ∧ w = w' := by
 go_enter Tryz.func14, Tryz.ntmps14
 have h1 := fun dst hd => run_bytes_str (P := Tryz.prog) (src := 47) (dst := dst) (c := c) hs Tryz.underlying47 Tryz.underlying5 hd
 have h2 := fun dst hd => run_bytes_str (P := Tryz.prog) (src := 47) (dst := dst) (c := c') hs' Tryz.underlying47 Tryz.underlying5 hd
 have h1 := h1 9 Tryz.underlying9
 have h2 := h2 9 Tryz.underlying9
 repeat' (first | go_skip | go_guarded | go_step)
 go_ret
 exact ⟨rfl, rfl⟩
theorem wpList_load_midG {P : Program} {ops : Array Oper} {rest : List Oper} {op : Oper} {a : Act} {w : World} {Q : Exit → Act → World → Prop} (ty : TypeId) (x : Operand) (ho : op.op = .load ty x) (b o : Nat) (hx : a.eval x = .pointer (some ⟨b, o, none⟩)) (hw : Region.wanted op (yielded ops a.tmps) = true) (cs : List Value) (d : TypeDesc) (hc : w.rangeAt b o cs)
  (hu : P.underlying ty = some d) (hd : d.isRow = true) (hi : (P.info? ty).map (·.size) = some cs.length) (h : wpList P ops Q rest (a.put op.dst (.agg cs.toArray)) w) : wpList P ops Q (op :: rest) a w := by
 simp only [wpList, hw, if_true]
 exact .inl (wp_load_mid ty x ho b o hx cs d hc hu hd hi h)
end Go.Proofs.YtgdapkglofchjaaGreatDoor
