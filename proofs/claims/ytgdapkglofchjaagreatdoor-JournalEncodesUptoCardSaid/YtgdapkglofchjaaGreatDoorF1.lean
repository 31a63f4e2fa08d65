/- Joined: Mem Open CardW Rd Put OctPure Take Num Str. -/
import Derived.WalkKit
import Derived.WalkSpells
import Derived.WalkLawsBesides
import Derived.Lib.Hide
import Derived.Lib.AppendStr
import Derived.Maps.AppendAt
import Derived.ProofKit
import Derived.OpenShut
import Derived.ShutString
import Derived.ChangeOld
import Derived.Test.YtgdapkglofchjaaGreatDoorRows
import Derived.Test.YtgdapkglofchjaaGreatDoorCards
import Derived.Test.YtgdapkglofchjaaGreatDoorTie
import Derived.Lib.LaidIn
import Derived.Lib.LaidU8T
import Derived.Deep.DeepHandedRow
import Derived.Deep.DeepWitnessRowRef
import Derived.SizedLaws
import Derived.Below
import Derived.Test.YtgdapkglofchjaaGreatDoorProg
import Derived.Lib.Varint
import Derived.Lib.VarintMem
import Derived.Lib.Zigzag
set_option maxRecDepth 100000
set_option maxHeartbeats 400000
set_option linter.unusedVariables false
namespace Go.Proofs.YtgdapkglofchjaaGreatDoor
open Go.RowKit
theorem ret_b {x y : Bool} (h : x = y) : Ending.returned (.bool x) = .returned (.bool y) := by rw [h]
theorem ret_i {k : IntKind} {x y : Int} (h : x = y) : Ending.returned (.int k x) = .returned (.int k y) := by rw [h]
theorem bcell {w w1 : World} (hb : Below w.heap.size w w1) :
  (∀ b o, b < w.heap.size → w1.cell? ⟨b, o, none⟩ = w.cell? ⟨b, o, none⟩) ∧ (∀ b o, b < w.heap.size → w1.frozen? ⟨b, o, none⟩ = w.frozen? ⟨b, o, none⟩) :=
 ⟨fun b o h => hb.cell (p := ⟨b, o, none⟩) h, fun b o h => hb.frozen (p := ⟨b, o, none⟩) h⟩
def Info (P : Program) (e : TypeId) (z : Value) (size bytes : Nat) : Prop :=
 (P.info? e).map (fun i => (i.zero, i.size, i.bytes)) = some (some z, size, bytes)
def SeqP (w : World) (S : Nat → Prop) (sz : Nat) (A : Option Addr) (n : Nat) (cs : List Value) : Prop :=
 cs.length = n * sz ∧ (0 < n → ∃ b o, A = some ⟨b, o, none⟩ ∧ S b ∧ ∀ j u, cs[j]? = some u → w.cell? ⟨b, o + j, none⟩ = some u)
abbrev Seq (w : World) (B sz : Nat) (A : Option Addr) (n : Nat) (cs : List Value) : Prop := SeqP w (fun b => b < B) sz A n cs
section
variable {w w' : World} {B B' sz n : Nat} {A : Option Addr} {cs : List Value} {S S' : Nat → Prop}
theorem SeqP.nil_ : SeqP w S sz none 0 [] := ⟨by simp, fun h => absurd h (by omega)⟩
theorem SeqP.map (h : SeqP w S sz A n cs) (hk : ∀ p : Addr, S p.block → w'.cell? p = w.cell? p) (hS : ∀ b, S b → S' b) : SeqP w' S' sz A n cs :=
 ⟨h.1, fun hn => by
  obtain ⟨b, o, e, hb, hc⟩ := h.2 hn
  exact ⟨b, o, e, hS b hb, fun j u hu => (hk ⟨b, o + j, none⟩ hb).trans (hc j u hu)⟩⟩
theorem SeqP.imp (h : SeqP w S sz A n cs) (hS : ∀ b, S b → S' b) : SeqP w S' sz A n cs := h.map (fun _ _ => rfl) hS
theorem Seq.nil_ : Seq w B sz none 0 [] := SeqP.nil_
theorem Seq.keep (h : Seq w B sz A n cs) (hk : ∀ p : Addr, p.block < B → w'.cell? p = w.cell? p) : Seq w' B sz A n cs := SeqP.map h hk fun _ hb => hb
theorem Seq.more (h : Seq w B sz A n cs) (hB : B ≤ B') : Seq w B' sz A n cs := SeqP.imp h fun _ hb => Nat.lt_of_lt_of_le hb hB
theorem Seq.below (h : Seq w B sz A n cs) (hb : Below B w w') : Seq w' B sz A n cs := h.keep fun _ hp => hb.cell hp
theorem Seq.of_own {base : Nat} {e : TypeId} {c : Nat} (h : w.ownsRow base e sz (.slice A n c) n cs) : Seq w w.heap.size sz A n cs := by
 refine ⟨h.1, fun hn => ?_⟩
 rcases h.2 with ⟨hv, h0⟩ | ⟨g, cap, cur, hv, hb, hg, hnc, _, hcs, ht⟩
 ·omega
 ·injection hv with hA
  subst hA
  refine ⟨g, 0, rfl, (Array.getElem?_eq_some_iff.1 hg).1, fun j u hu => ?_⟩
  have := h.cells (g := g) rfl j u hu
  rw [Addr.add_lit] at this
  exact this
theorem Seq.cut (h : Seq w B sz A n cs) {k cap : Nat} (hk : k ≤ n) (hc : n ≤ cap) :
  Seq w B sz (if cap = k then A else A.map (·.add (k * sz))) (n - k) (cs.drop (k * sz)) := by
 refine ⟨by rw [List.length_drop, h.1, Nat.sub_mul], fun hn => ?_⟩
 obtain ⟨b, o, rfl, hb, hcell⟩ := h.2 (by omega)
 rw [if_neg (by omega)]
 refine ⟨b, o + k * sz, by simp [Addr.add_lit], hb, fun j u hu => ?_⟩
 rw [Nat.add_assoc]
 exact hcell _ u (by rw [← hu, List.getElem?_drop])
end
structure Grew (w w' : World) (v v' : Value) : Prop where
 by_ : w.grownBy w' v.ownBlock
 at_ : v'.ownBlock = v.ownBlock ∨ v'.ownBlock = some w.heap.size
theorem Grew.cell {w w' : World} {v v' : Value} (h : Grew w w' v v') {p : Addr} (h1 : p.block < w.heap.size) (h2 : some p.block ≠ v.ownBlock) : w'.cell? p = w.cell? p := World.cell?_of_block (h.by_.block p.block h1 h2)
theorem Grew.frozen {w w' : World} {v v' : Value} (h : Grew w w' v v') {p : Addr} (h1 : p.block < w.heap.size) (h2 : some p.block ≠ v.ownBlock) : w'.frozen? p = w.frozen? p := World.frozen?_of_block (h.by_.block p.block h1 h2)
theorem Grew.ne {w w' : World} {v v' : Value} (h : Grew w w' v v') {b : Nat} (h1 : b < w.heap.size) (h2 : some b ≠ v.ownBlock) : some b ≠ v'.ownBlock := by
 rcases h.at_ with e | e <;> rw [e]
 ·exact h2
 ·intro hh; injection hh with hh; omega
def Own (W0 w : World) (e : TypeId) (sz : Nat) (v : Value) (n : Nat) (xs : List Value) : Prop :=
 w.ownsRow W0.heap.size e sz v n xs ∧ Below W0.heap.size W0 w
section
variable {P : Program} {ops : Array Oper} {rest : List Oper} {o : Oper} {a : Act} {Q : Exit → Act → World → Prop} {w W0 : World} {e : TypeId} {size n : Nat} {v : Value} {xs : List Value}
theorem Own.nil_ (w : World) (e : TypeId) (sz : Nat) : Own w w e sz (.slice none 0 0) 0 [] := ⟨World.ownsRow_nil _ _ _ _, Below.refl _ _⟩
theorem wp_appL (H : Own W0 w e size v n xs) {t : TypeId} {z : Value} {bytes m : Nat} (ht : P.underlying t = some (.slice e)) (hi : Info P e z size bytes)
  (hbytes : (n + m) * bytes ≤ 140737488355328) {cs : Array Value}
  (h : ∀ v' w', Own W0 w' e size v' (n + m) (xs ++ cs.toList) → Grew (w.alloc (.cells cs e)) w' v v' → wpList P ops Q rest (a.put o.dst v') w')
  {s x : Operand} {g : Nat} (hgd : o.guard = none := by rfl) (ho : o.op = .call { callee := .builtin .append, args := #[s, x], argTypes := #[t, t] } := by rfl)
  (hs : a.eval s = v := by rfl) (hx : a.eval x = .slice (some ⟨g, 0, none⟩) m m := by rfl) (hgs : g = w.heap.size := by first | rfl | simp) (hzs : z.cells.size = size := by rfl) (hsz : 0 < size := by decide) (hby : 0 < bytes := by decide)
  (hcs : cs.size = m * size := by rfl) (h1 : cs.toList.all Value.oneCell' = true := by rfl) :
  wpList P ops Q (o :: rest) a (w.alloc (.cells cs e)) := by
 subst hgs
 obtain ⟨hown, hB⟩ := H
 have hn := Nat.le_trans (Nat.le_mul_of_pos_right (n + m) hby) hbytes
 obtain ⟨i, hi1, hi2, hi3, hi4⟩ := info_parts hi
 refine wpList_append_own_at _ hgd s x t ho W0.heap.size e i z size bytes ht hi1 hi2 hi3 hi4 hzs hsz v n xs hs (hown.alloc _) ⟨w.heap.size, 0, none⟩ m m cs.toList hx (by simpa using hcs) ?_ (List.all_eq_true.1 h1) (by unfold maxLen; omega) hbytes
  (by have := hB.size; simp; omega) ?_
 ·intro j u hu
  rw [Addr.add_lit, Nat.zero_add]
  have := cell_of_row (w.alloc (.cells cs e)) w.heap.size j cs e (0, 0) (heap_alloc_new w _)
  rw [this]
  simpa using hu
 ·intro v' w' hown' hg _ hat
  refine h v' w' ⟨hown', ?_⟩ ⟨hg, hat⟩
  exact (hB.alloc hB.size _).grown hg (by have := hB.size; simp; omega) (fun k hk => (hown.lt k hk).1)
theorem wp_app1 (H : Own W0 w e size v n xs) {t : TypeId} {z : Value} {bytes : Nat} (ht : P.underlying t = some (.slice e)) (hi : Info P e z size bytes)
  (hbytes : (n + 1) * bytes ≤ 140737488355328) {cs : Array Value}
  (h : ∀ v' w', Own W0 w' e size v' (n + 1) (xs ++ cs.toList) → Grew (w.alloc (.cells cs e)) w' v v' → wpList P ops Q rest (a.put o.dst v') w')
  {s x : Operand} {g : Nat} (hgd : o.guard = none := by rfl) (ho : o.op = .call { callee := .builtin .append, args := #[s, x], argTypes := #[t, t] } := by rfl)
  (hs : a.eval s = v := by rfl) (hx : a.eval x = .slice (some ⟨g, 0, none⟩) 1 1 := by rfl) (hgs : g = w.heap.size := by first | rfl | simp) (hzs : z.cells.size = size := by rfl) (hsz : 0 < size := by decide) (hby : 0 < bytes := by decide)
  (hcs : cs.size = size := by rfl) (h1 : cs.toList.all Value.oneCell' = true := by rfl) :
  wpList P ops Q (o :: rest) a (w.alloc (.cells cs e)) :=
 wp_appL H ht hi hbytes h hgd ho hs hx hgs hzs hsz hby (by rw [Nat.one_mul]; exact hcs) h1
theorem Own.slice_form (H : Own W0 w e size v n xs) : ∃ A c, v = .slice A n c := by
 rcases H.1.2 with ⟨rfl, rfl⟩ | ⟨g, cap, cur, rfl, _⟩
 ·exact ⟨none, 0, rfl⟩
 ·exact ⟨_, _, rfl⟩
theorem Own.seq {A : Option Addr} {c : Nat} (H : Own W0 w e size (.slice A n c) n xs) : Seq w w.heap.size size A n xs := Seq.of_own H.1
theorem ownsRow_mono {base base' : Nat} (h : w.ownsRow base e size v n xs) (hb : base' ≤ base) : w.ownsRow base' e size v n xs := by
 refine ⟨h.1, ?_⟩
 rcases h.2 with h2 | ⟨g, cap, cur, hv, hg, r⟩
 ·exact .inl h2
 ·exact .inr ⟨g, cap, cur, hv, by omega, r⟩
theorem Own.up {W1 : World} (h : Below W0.heap.size W0 W1) (H : Own W1 w e size v n xs) : Own W0 w e size v n xs :=
 ⟨ownsRow_mono H.1 h.size, h.trans (H.2.mono h.size)⟩
theorem Own.cap_le {A : Option Addr} {c : Nat} (H : Own W0 w e size (.slice A n c) n xs) : n ≤ c := by
 rcases H.1.2 with ⟨hv, h0⟩ | ⟨g, cap, cur, hv, _, _, hn, _⟩
 ·injection hv; omega
 ·injection hv; omega
theorem run_append_of_nil {base : Nat} {t ty : TypeId} {i : TypeInfo} (ht : P.underlying t = some (.slice e)) (hi : P.info? e = some i)
  (hown : w.ownsRow base e size v n xs) (c : Nat) : (Builtin.append_ #[t, t] ty #[v, .slice none 0 c]).run P w = .ok v w := by
 rcases hown.2 with ⟨rfl, rfl⟩ | ⟨g, cap, cur, rfl, _, _, hnc, _⟩
 ·simp [Builtin.append_, run_underlying ht, sizeOf, typeInfo, hi, Builtin.lenOf, Builtin.firstCells]
 ·simp [Builtin.append_, run_underlying ht, sizeOf, typeInfo, hi, Builtin.lenOf, Builtin.firstCells, hnc, storeCells]
theorem wp_appS (H : Own W0 w e size v n xs) {t : TypeId} {z : Value} {bytes : Nat} (ht : P.underlying t = some (.slice e)) (hi : Info P e z size bytes)
  {A : Option Addr} {m c B : Nat} {news : List Value} (hr : Seq w B size A m news) (h1 : ∀ u ∈ news, u.oneCell' = true)
  (hbytes : (n + m) * bytes ≤ 140737488355328)
  (h : ∀ v' w', Own W0 w' e size v' (n + m) (xs ++ news) → Grew w w' v v' → wpList P ops Q rest (a.put o.dst v') w')
  {s x : Operand} (hgd : o.guard = none := by rfl) (ho : o.op = .call { callee := .builtin .append, args := #[s, x], argTypes := #[t, t] } := by rfl)
  (hs : a.eval s = v := by rfl) (hx : a.eval x = .slice A m c := by rfl) (hzs : z.cells.size = size := by rfl) (hsz : 0 < size := by decide) (hby : 0 < bytes := by decide) :
  wpList P ops Q (o :: rest) a w := by
 obtain ⟨hown, hB⟩ := H
 have hn := Nat.le_trans (Nat.le_mul_of_pos_right (n + m) hby) hbytes
 obtain ⟨i, hi1, hi2, hi3, hi4⟩ := info_parts hi
 have hnil : ∀ c', m = 0 → news = [] → (c' = c ∧ A = none) → wpList P ops Q (o :: rest) a w := by
  rintro c' rfl rfl ⟨rfl, rfl⟩
  refine wpList_plain hgd fun K hK => ?_
  have hr := run_append_of_nil (P := P) (t := t) (ty := o.type) ht hi1 hown c'
  unfold Oper.wp execOp
  simp only [ho, resolve, invoke, builtin, Sem.run_bind, Sem.run_pure, Result.andThen_ok, List.map_toArray, List.map_cons, List.map_nil, hs, hx, hr]
  exact hK _ _ (h v w ⟨by simpa using hown, hB⟩ ⟨World.grownBy.refl _ _, .inl rfl⟩)
 rcases A with _ | ad
 ·have hm : m = 0 := by
   rcases Nat.eq_zero_or_pos m with h0 | h0
   ·exact h0
   ·obtain ⟨_, _, h, _⟩ := hr.2 h0
    cases h
  exact hnil c hm (List.eq_nil_of_length_eq_zero (by rw [hr.1, hm]; simp)) ⟨rfl, rfl⟩
 ·refine wpList_append_own_at _ hgd s x t ho W0.heap.size e i z size bytes ht hi1 hi2 hi3 hi4 hzs hsz v n xs hs hown ad m c news hx hr.1 ?_ h1 (by unfold maxLen; omega) hbytes hB.size ?_
  ·intro j u hu
   rcases Nat.eq_zero_or_pos m with h0 | h0
   ·have : news = [] := List.eq_nil_of_length_eq_zero (by rw [hr.1, h0]; simp)
    subst this
    simp at hu
   ·obtain ⟨b, o', hA, _, hc⟩ := hr.2 h0
    injection hA with hA
    subst hA
    rw [Addr.add_lit]
    exact hc j u hu
  ·intro v' w' hown' hg _ hat
   exact h v' w' ⟨hown', hB.grown hg hB.size (fun k hk => (hown.lt k hk).1)⟩ ⟨hg, hat⟩
theorem wp_appStr (H : Own W0 w e 1 v n xs) {t u : TypeId} (ht : P.underlying t = some (.slice e)) (hu : P.underlying u = some .string) (hi : Info P e (.int .u8 0) 1 1)
  {str : ByteArray} (hbytes : n + str.size ≤ 140737488355328)
  (h : ∀ v' w', Own W0 w' e 1 v' (n + str.size) (xs ++ Lib.strCells str) → w.grownBy w' v.ownBlock → wpList P ops Q rest (a.put o.dst v') w')
  {s x : Operand} (hgd : o.guard = none := by rfl) (ho : o.op = .call { callee := .builtin .append, args := #[s, x], argTypes := #[t, u] } := by rfl)
  (hs : a.eval s = v := by rfl) (hx : a.eval x = .string str := by rfl) :
  wpList P ops Q (o :: rest) a w := by
 obtain ⟨hown, hB⟩ := H
 obtain ⟨i, hi1, hi2, hi3, hi4⟩ := info_parts hi
 refine Lib.wpList_append_own_string _ hgd s x t u ho W0.heap.size e i ht hu hi1 hi2 hi3 hi4 v n xs hs hown str hx (by unfold maxLen; omega) hbytes hB.size ?_
 intro v' w' hown' hg _
 exact h v' w' ⟨hown', hB.grown hg hB.size (fun k hk => (hown.lt k hk).1)⟩ hg
end
abbrev bv (c : UInt8) : Value := .int .u8 (c.toNat : Int)
theorem bv_one (l : List UInt8) : ∀ u ∈ l.map bv, u.oneCell' = true := by
 intro u hu
 obtain ⟨c, _, rfl⟩ := List.mem_map.1 hu
 rfl
theorem run_bytes_str {P : Program} {w : World} {B n c : Nat} {A : Option Addr} {l : List UInt8} {src e dst : TypeId} (hr : Seq w B 1 A n (l.map bv)) (hs : P.underlying src = some (.slice e)) (he : P.underlying e = some (.int .u8))
  (hd : P.underlying dst = some .string) : (convert src dst (.slice A n c)).run P w = .ok (.string ⟨l.toArray⟩) w := by
 have hl : l.length = n := by simpa using hr.1
 rcases A with _ | ad
 ·have hm : n = 0 := by
   rcases Nat.eq_zero_or_pos n with h0 | h0
   ·exact h0
   ·obtain ⟨_, _, h, _⟩ := hr.2 h0
    cases h
  subst hm
  have : l = [] := List.eq_nil_of_length_eq_zero hl
  subst this
  rw [run_convert_bytes_nil w src e hs he 0 c dst hd]
  rfl
 ·rcases Nat.eq_zero_or_pos n with h0 | h0
  ·subst h0
   have : l = [] := List.eq_nil_of_length_eq_zero hl
   subst this
   rw [run_convert_bytes_string w src dst e _ 0 c hs he hd, run_bytesToString w _ 0 c [] (by simp [loadCells, loadCellsFrom])]
   rfl
  ·obtain ⟨b, o, hA, _, hc⟩ := hr.2 h0
   injection hA with hA
   subst hA
   have := run_convert_bytes_arg (P := P) w src e hs he b o n c (l.map fun x => (x.toNat : Int)) (by simpa using hl) (fun i hi => by
    have hx : l[i]? = some (l[i]'(by omega)) := List.getElem?_eq_getElem (by omega)
    rw [hc i (bv (l[i]'(by omega))) (by simp [hx])]
    simp [hx]) dst hd
   rw [this]
   congr 2
   unfold strOfNums
   simp only [List.map_map, Function.comp_def, Int.toNat_natCast]
   congr 2
   exact List.map_id'' (fun x => by simp) _
theorem Seq.sub {w : World} {B sz n c : Nat} {A : Option Addr} {cs : List Value} (h : Seq w B sz A n cs) {lo hi : Nat} (h1 : lo ≤ hi) (h2 : hi ≤ n) (hc : n ≤ c) :
  Seq w B sz (if c = lo then A else A.map (fun x => x.add (lo * sz))) (hi - lo) ((cs.drop (lo * sz)).take ((hi - lo) * sz)) := by
 have hle : hi * sz ≤ n * sz := Nat.mul_le_mul_right _ h2
 have hle1 : lo * sz ≤ hi * sz := Nat.mul_le_mul_right _ h1
 refine ⟨by rw [List.length_take, List.length_drop, h.1, Nat.sub_mul]; omega, fun hn => ?_⟩
 obtain ⟨b, o, rfl, hb, hcell⟩ := h.2 (by omega)
 rw [if_neg (by omega)]
 refine ⟨b, o + lo * sz, by simp [Addr.add_lit], hb, fun j u hu => ?_⟩
 rw [Nat.add_assoc]
 refine hcell _ u ?_
 rw [List.getElem?_take] at hu
 split at hu
 ·rw [← hu, List.getElem?_drop]
 ·cases hu
theorem Seq.sub1 {w : World} {B n c : Nat} {A : Option Addr} {cs : List Value} (h : Seq w B 1 A n cs) {lo hi : Nat} (h1 : lo ≤ hi) (h2 : hi ≤ n) (hc : n ≤ c) :
  Seq w B 1 (if c = lo then A else A.map (fun x => x.add lo)) (hi - lo) ((cs.drop lo).take (hi - lo)) := by
 have := h.sub h1 h2 hc
 simpa only [Nat.mul_one] using this
theorem wp_bytes_str {P : Program} {ops : Array Oper} {rest : List Oper} {o : Oper} {a : Act} {Q : Exit → Act → World → Prop} {w : World} {B n c : Nat} {A : Option Addr} {l : List UInt8} {src e dst : TypeId}
  (hs : P.underlying src = some (.slice e)) (he : P.underlying e = some (.int .u8)) (hd : P.underlying dst = some .string) (hr : Seq w B 1 A n (l.map bv))
  (h : wpList P ops Q rest (a.put o.dst (.string ⟨l.toArray⟩)) w) {x : Operand} (hgd : o.guard = none := by rfl) (ho : o.op = .convert src dst x := by rfl) (hx : a.eval x = .slice A n c := by rfl) :
  wpList P ops Q (o :: rest) a w := by
 refine wpList_plain hgd fun K hK => ?_
 unfold Oper.wp execOp
 simp only [ho, hx, Sem.run_bind, run_bytes_str hr hs he hd]
 exact hK _ _ h
theorem Own.below {W0 w w' : World} {e : TypeId} {size n : Nat} {v : Value} {xs : List Value} (H : Own W0 w e size v n xs) (hb : Below w.heap.size w w') : Own W0 w' e size v n xs := by
 refine ⟨H.1.kept (row := none) ⟨hb.os, hb.tape, hb.output, hb.size, fun k hk _ => hb.block k hk⟩ ?_, H.2.trans (hb.mono H.2.size)⟩
 cases hv : v.ownBlock <;> simp
theorem Own.alloc {W0 w : World} {e : TypeId} {size n : Nat} {v : Value} {xs : List Value} (H : Own W0 w e size v n xs) (o : Obj) : Own W0 (w.alloc o) e size v n xs := H.below ((Below.refl _ _).alloc (Nat.le_refl _) o)
theorem Own.far {W0 w wa w' : World} {e : TypeId} {size n : Nat} {v v' : Value} {xs : List Value} (H : Own W0 w e size v n xs) (hg : Grew wa w' v v') {b : Nat} (h1 : w.heap.size ≤ b) (h2 : b < wa.heap.size) :
  (∀ o, w'.cell? ⟨b, o, none⟩ = wa.cell? ⟨b, o, none⟩) ∧ (∀ o, w'.frozen? ⟨b, o, none⟩ = wa.frozen? ⟨b, o, none⟩) := by
 have hne : some b ≠ v.ownBlock := fun e => by have := (H.1.lt b e.symm).2; omega
 exact ⟨fun o => hg.cell (p := ⟨b, o, none⟩) h2 hne, fun o => hg.frozen (p := ⟨b, o, none⟩) h2 hne⟩
theorem Own.lt {W0 w : World} {e : TypeId} {size n : Nat} {v : Value} {xs : List Value} (H : Own W0 w e size v n xs) {b : Nat} (hb : w.heap.size ≤ b) : some b ≠ v.ownBlock := fun e => by have := (H.1.lt b e.symm).2; omega
theorem Own.old {W0 w : World} {e : TypeId} {size n : Nat} {v : Value} {xs : List Value} (H : Own W0 w e size v n xs) {b : Nat} (hb : b < W0.heap.size) : some b ≠ v.ownBlock := fun e => by have := (H.1.lt b e.symm).1; omega
theorem Own.empty_lit (w : World) (e : TypeId) (sz : Nat) : Own w (w.alloc (.cells #[] e)) e sz (.slice (some ⟨w.heap.size, 0, none⟩) 0 0) 0 [] := by
 refine ⟨?_, (Below.refl _ _).alloc (Nat.le_refl _) _⟩
 have := World.ownsRow_lit (base := w.heap.size) (e := e) (size := sz) w #[] 0 (Nat.le_refl _) (by unfold maxLen; omega) (by simp)
 simpa using this
theorem Own.head {W0 w : World} {e : TypeId} {size n c : Nat} {A : Option Addr} {xs : List Value} (H : Own W0 w e size (.slice A n c) n xs) (hn : 0 < n) :
  ∃ g, A = some ⟨g, 0, none⟩ ∧ W0.heap.size ≤ g ∧ g < w.heap.size ∧ (∀ j u, xs[j]? = some u → w.cell? ⟨g, j, none⟩ = some u) ∧ (∀ j, w.frozen? ⟨g, j, none⟩ = false) := by
 rcases H.1.2 with ⟨hv, h0⟩ | ⟨g, cap, cur, hv, hb, hg, hnc, _, hcs, ht⟩
 ·omega
 ·injection hv with hA _ hc
  subst hA hc
  refine ⟨g, rfl, hb, (Array.getElem?_eq_some_iff.1 hg).1, fun j u hu => ?_, fun j => H.1.frozenAt j⟩
  have := H.1.cells (g := g) rfl j u hu
  rw [Addr.add_lit, Nat.zero_add] at this
  exact this
theorem Own.store {W0 w : World} {e : TypeId} {size n c g : Nat} {xs : List Value} (H : Own W0 w e size (.slice (some ⟨g, 0, none⟩) n c) n xs) (hg : W0.heap.size ≤ g) (j : Nat) (u : Value) :
  Own W0 (w.setCell ⟨g, j, none⟩ u) e size (.slice (some ⟨g, 0, none⟩) n c) n (xs.set j u) :=
 ⟨(H.1.stored j u).1, H.2.setCell hg u⟩
theorem Own.lit {W0 w : World} (hB : Below W0.heap.size W0 w) {cs : Array Value} {e : TypeId} {sz n : Nat} (hs : cs.size = n * sz) (hn : n ≤ 1000000000) : Own W0 (w.alloc (.cells cs e)) e sz (.slice (some ⟨w.heap.size, 0, none⟩) n n) n cs.toList :=
 ⟨World.ownsRow_lit w cs n hB.size (by unfold maxLen; omega) hs, hB.alloc hB.size _⟩
end Go.Proofs.YtgdapkglofchjaaGreatDoor
namespace Go.Proofs.YtgdapkglofchjaaGreatDoor
open Go.ChangeShapes Go.WideShapes Go.ChangeAt Go.RowKit
theorem seq_of_cells {w : World} {sz n : Nat} {ad : Addr} {cs : List Value} (hl : cs.length = n * sz) (hsz : 0 < sz) (hc : ∀ j u, cs[j]? = some u → w.cell? (ad.add j) = some u) : Seq w w.heap.size sz (some ad) n cs := by
 refine ⟨hl, fun hn => ?_⟩
 have hpos : 0 < cs.length := by rw [hl]; exact Nat.mul_pos hn hsz
 have h0 := hc 0 _ (List.getElem?_eq_getElem hpos)
 have hspot : (ad.add 0).spot = none := World.cell?_spot h0
 have e0 : ad.add 0 = ad := by simp [Addr.add]
 rw [e0] at hspot h0
 obtain ⟨b, o, s⟩ := ad
 dsimp only at hspot
 subst hspot
 refine ⟨b, o, rfl, World.block_lt_of_cell? w _ h0, fun j u hu => ?_⟩
 have := hc j u hu
 rwa [Addr.add_lit] at this
end Go.Proofs.YtgdapkglofchjaaGreatDoor
namespace Go.Proofs.YtgdapkglofchjaaGreatDoor
theorem ownK : ownKnob Tryz.prog.godebug = none := by kernel_rfl
theorem laidOut : laidOutB Tryz.prog = true := by kernel_rfl
noncomputable def laidWorld (os : Os) : World :=
 let w0 := World.holding Tryz.prog os ⟨#[], #[], []⟩
 let put (h : Array Obj) (g : Nat) (cs : Array Value) : Array Obj := h.modify g fun
  | .cells _ t frozen => .cells cs t frozen
  | o => o
 let h1 := put w0.heap 0 (Lib.firstTab.map fun z => Value.int .u8 z).toArray
 let h2 := put h1 1 ((List.range 16).flatMap fun i => [Value.int .u8 (Lib.accLo i), Value.int .u8 (Lib.accHi i)]).toArray
 { w0 with heap := h2 }
theorem laid_met (os : Os) (args : Array Value) : laidMet Tryz.prog Rows.journalEncodesRow.laid ((laidWorld os).forCall (fun _ _ => 0) ⟨#[], args, []⟩).memory :=
 (LaidIn.of_run (l := Rows.journalEncodesRow.laid) [1, 0] 8 (by kernel_rfl) (by kernel_rfl) (by kernel_rfl) (by kernel_rfl)).met
end Go.Proofs.YtgdapkglofchjaaGreatDoor
namespace Go.Proofs.YtgdapkglofchjaaGreatDoor
open Go.ChangeShapes Go.WideShapes Go.ChangeAt Go.RowKit
abbrev Rd (α : Type) := World → (Nat → Prop) → α → List Value → Prop
def RList {α : Type} (r : Rd α) (sz : Nat) (w : World) (S : Nat → Prop) : List α → List Value → Prop
 | [], cs => cs = []
 | x :: xs, cs => ∃ c1 c2, cs = c1 ++ c2 ∧ c1.length = sz ∧ r w S x c1 ∧ RList r sz w S xs c2
section
variable {α : Type} {r : Rd α} {sz : Nat} {w w' : World} {S S' : Nat → Prop}
theorem RList.length : ∀ {l : List α} {cs : List Value}, RList r sz w S l cs → cs.length = l.length * sz
 | [], _, h => by cases h; simp
 | x :: xs, cs, h => by
  obtain ⟨c1, c2, rfl, h1, _, h2⟩ := h
  have := RList.length h2
  simp only [List.length_append, List.length_cons, h1, this, Nat.add_mul]; omega
theorem RList.map (hr : ∀ x cs, r w S x cs → r w' S' x cs) : ∀ {l : List α} {cs : List Value}, RList r sz w S l cs → RList r sz w' S' l cs
 | [], _, h => h
 | x :: xs, cs, h => by
  obtain ⟨c1, c2, rfl, h1, h2, h3⟩ := h
  exact ⟨c1, c2, rfl, h1, hr _ _ h2, RList.map hr h3⟩
theorem RList.at_ : ∀ {l : List α} {cs : List Value} {i : Nat} {x : α}, RList r sz w S l cs → l[i]? = some x → ∃ c1, c1.length = sz ∧ r w S x c1 ∧ ∀ j u, c1[j]? = some u → cs[i * sz + j]? = some u
 | [], _, _, _, _, h => by simp at h
 | x :: xs, cs, 0, y, hR, h => by
  obtain ⟨c1, c2, rfl, h1, h2, _⟩ := hR
  simp only [List.getElem?_cons_zero, Option.some.injEq] at h
  subst h
  refine ⟨c1, h1, h2, fun j u hu => ?_⟩
  have hj := (List.getElem?_eq_some_iff.1 hu).1
  rw [Nat.zero_mul, Nat.zero_add, List.getElem?_append_left hj]; exact hu
 | x :: xs, cs, i + 1, y, hR, h => by
  obtain ⟨c1, c2, rfl, h1, _, h3⟩ := hR
  obtain ⟨c, g1, g2, g3⟩ := RList.at_ (i := i) h3 (by simpa using h)
  refine ⟨c, g1, g2, fun j u hu => ?_⟩
  rw [Nat.add_mul, List.getElem?_append_right (by omega), ← g3 j u hu]
  congr 1
  omega
theorem RList.append : ∀ {l m : List α} {cs ds : List Value}, RList r sz w S l cs → RList r sz w S m ds → RList r sz w S (l ++ m) (cs ++ ds)
 | [], _, _, _, h, k => by cases h; exact k
 | x :: xs, _, _, _, h, k => by
  obtain ⟨c1, c2, rfl, h1, h2, h3⟩ := h
  exact ⟨c1, c2 ++ _, by simp, h1, h2, RList.append h3 k⟩
theorem RList.one {x : α} {cs : List Value} (h : r w S x cs) (hl : cs.length = sz) : RList r sz w S [x] cs := ⟨cs, [], by simp, hl, h, rfl⟩
theorem RList.one_cell (hr : ∀ x cs, r w S x cs → ∀ u ∈ cs, u.oneCell' = true) : ∀ {l : List α} {cs : List Value}, RList r sz w S l cs → ∀ u ∈ cs, u.oneCell' = true
 | [], _, h => by cases h; intro u hu; cases hu
 | x :: xs, cs, h => by
  obtain ⟨c1, c2, rfl, h1, h2, h3⟩ := h
  intro u hu
  rcases List.mem_append.1 hu with hu | hu
  ·exact hr _ _ h2 u hu
  ·exact RList.one_cell hr h3 u hu
end
def RSlice {α : Type} (r : Rd α) (sz : Nat) (w : World) (S : Nat → Prop) (A : Option Addr) (n c : Nat) (l : List α) : Prop :=
 l.length = n ∧ n ≤ c ∧ (A = none → c = 0) ∧ ∃ cs, SeqP w S sz A n cs ∧ RList r sz w S l cs
section
variable {H : Type} {enc : TypeId × Value → H} {P : Program} {W : World} {spare : Nat → Bool} {held : Bool}
end
end Go.Proofs.YtgdapkglofchjaaGreatDoor
namespace Go.Proofs.YtgdapkglofchjaaGreatDoor
open Go.RowKit
theorem u8_info : Info Tryz.prog 5 (.int .u8 0) 1 1 := by unfold Info; kernel_rfl
def Bytes (w0 w : World) (v : Value) (l : List UInt8) : Prop := Own w0 w 5 1 v l.length (l.map bv)
theorem Bytes.snoc {w0 w : World} {v : Value} {l : List UInt8} {x : Value} {c : UInt8} (h : Own w0 w 5 1 v (l.length + 1) (l.map bv ++ #[x].toList)) (hx : x = bv c) : Bytes w0 w v (l ++ [c]) := by
 subst hx
 unfold Bytes
 simpa using h
@[irreducible] def U64 (m : Nat) : Prop := m < 18446744073709551616
theorem U64.div {m : Nat} (h : U64 m) (k : Nat) : U64 (m / k) := by
 unfold U64 at h ⊢
 exact Nat.lt_of_le_of_lt (Nat.div_le_self _ _) h
theorem U64.lt {m : Nat} (h : U64 m) : m < 18446744073709551616 := by unfold U64 at h; exact h
theorem U64.mk {m : Nat} (h : m < 18446744073709551616) : U64 m := by unfold U64; exact h
def RetBytes (w : World) (l : List UInt8) (e : Ending) (w' : World) : Prop := ∃ A c, e = .returned (.slice A l.length c) ∧ Bytes w w' (.slice A l.length c) l
theorem Bytes.ret {w w' : World} {v : Value} {l : List UInt8} (h : Bytes w w' v l) : RetBytes w l (.returned v) w' := by
 obtain ⟨A, c, rfl⟩ := Own.slice_form h
 exact ⟨A, c, rfl, h⟩
theorem Bytes.seq {w w' : World} {A : Option Addr} {n c : Nat} {l : List UInt8} (h : Bytes w w' (.slice A n c) l) : Seq w' w'.heap.size 1 A l.length (l.map bv) := by
 obtain ⟨A', c', he⟩ := Own.slice_form h
 injection he with h1 h2 h3
 subst h1 h2 h3
 exact Own.seq h
theorem putUint_any (n : Nat) (w : World) (hn : U64 n) :
  Calls Tryz.prog 50 #[.int .u64 (n : Int)] w (RetBytes w (Lib.uvarint n)) := by
 go_enter Tryz.func50, Tryz.ntmps50
 repeat' (first | go_skip | go_guarded | go_step)
 go_loopw [0, 3] (fun u0 u3 wr => ∃ (m : Nat) (pre : List UInt8), U64 m ∧ pre.length + (Lib.uvarint m).length ≤ 10 ∧ u0 = .int .u64 (m : Int) ∧ Bytes w wr u3 pre ∧ pre ++ Lib.uvarint m = Lib.uvarint n) (fun u0 _ _ => (intOf u0).toNat)
 case atStart => exact ⟨n, [], hn, by simpa using Lib.uvarint_length64 (by unfold U64 at hn; exact hn), rfl, Own.nil_ _ _ _, rfl⟩
 case round =>
  obtain ⟨m, pre, hm, hlen, rfl, hown, hpre⟩ := hrel
  have hb : (pre.length + 1) * 1 ≤ 140737488355328 := by have := Lib.uvarint_pos m; omega
  have Hpre := Lib.hid hpre; clear hpre
  have Hlen := Lib.hid hlen; clear hlen
  repeat' (first | (at_builtin; go_loud (refine wp_app1 hown Tryz.underlying47 u8_info hb ?_); intro v1 w1 hown1 _) | go_skip | go_guarded | go_step)
  ·have hge : (128 : Int) ≤ m := by assumption
   go_roundw
   case rel =>
    refine ⟨m / 128, pre ++ [(m % 128 + 128).toUInt8], hm.div _, ?_, by go_num, Bytes.snoc hown1 ?_, ?_⟩
    ·have := Hlen.out; rw [Lib.uvarint_big (by omega)] at this; simp at this ⊢; omega
    ·rw [Lib.u8_or128_any _ (by omega) (by omega)]
     simp only [bv]
     rw [Lib.toUInt8_toNat (by omega)]
     go_num
    ·rw [← Hpre.out, Lib.uvarint_big (x := m) (by omega)]; simp
   case measure => simp [intOf]; omega
  ·have hlt : (m : Int) < 128 := by assumption
   go_ret
   refine Bytes.ret ?_
   rw [← Hpre.out, Lib.uvarint_small (by omega)]
   refine Bytes.snoc hown1 ?_
   simp only [bv]
   rw [Lib.toUInt8_toNat (by omega)]
end Go.Proofs.YtgdapkglofchjaaGreatDoor
namespace Go.Proofs.YtgdapkglofchjaaGreatDoor
def tu : Nat → Nat → List UInt8 → Nat × Nat × Nat
 | _, _, [] => (0, 0, 4)
 | i, acc, c :: r =>
  if i = 9 ∧ 1 < c.toNat then (0, 0, 2)
  else if c.toNat < 128 then (if c.toNat = 0 ∧ 0 < i then (0, 0, 5) else (acc + c.toNat * 128 ^ i, i + 1, 0))
  else tu (i + 1) (acc + (c.toNat - 128) * 128 ^ i) r
def takeU (l : List UInt8) : Nat × Nat × Nat := tu 0 0 l
theorem tu_end {l : List UInt8} {k acc : Nat} (h : l.length ≤ k) : tu k acc (l.drop k) = (0, 0, 4) := by
 rw [List.drop_of_length_le h]; rfl
theorem tu_at {l : List UInt8} {k acc : Nat} {c : UInt8} (h : l[k]? = some c) : tu k acc (l.drop k) =
  if k = 9 ∧ 1 < c.toNat then (0, 0, 2)
  else if c.toNat < 128 then (if c.toNat = 0 ∧ 0 < k then (0, 0, 5) else (acc + c.toNat * 128 ^ k, k + 1, 0))
  else tu (k + 1) (acc + (c.toNat - 128) * 128 ^ k) (l.drop (k + 1)) := by
 obtain ⟨hk, he⟩ := List.getElem?_eq_some_iff.1 h
 rw [List.drop_eq_getElem_cons hk, he]; rfl
theorem tu_nine {l : List UInt8} {acc : Nat} {c : UInt8} (h : l[9]? = some c) (hc : 1 < c.toNat) : tu 9 acc (l.drop 9) = (0, 0, 2) := by
 rw [tu_at h, if_pos ⟨rfl, hc⟩]
theorem tu_zero {l : List UInt8} {k acc : Nat} {c : UInt8} (h : l[k]? = some c) (hc : c.toNat = 0) (hk : 0 < k) : tu k acc (l.drop k) = (0, 0, 5) := by
 rw [tu_at h, if_neg (by omega), if_pos (by omega), if_pos ⟨hc, hk⟩]
theorem tu_last {l : List UInt8} {k acc : Nat} {c : UInt8} (h : l[k]? = some c) (h9 : ¬ (k = 9 ∧ 1 < c.toNat)) (hc : c.toNat < 128) (hk : ¬ (c.toNat = 0 ∧ 0 < k)) : tu k acc (l.drop k) = (acc + c.toNat * 128 ^ k, k + 1, 0) := by
 rw [tu_at h, if_neg h9, if_pos hc, if_neg hk]
theorem tu_more {l : List UInt8} {k acc : Nat} {c : UInt8} (h : l[k]? = some c) (h9 : k ≠ 9) (hc : 128 ≤ c.toNat) : tu k acc (l.drop k) = tu (k + 1) (acc + (c.toNat - 128) * 128 ^ k) (l.drop (k + 1)) := by
 rw [tu_at h, if_neg (by omega), if_neg (by omega)]
theorem pow128 (k : Nat) : 128 ^ k = 2 ^ (7 * k) := by rw [Nat.pow_mul]
theorem pow128_le {k : Nat} (h : k ≤ 9) : 128 ^ k ≤ 9223372036854775808 := by
 rw [pow128]; exact Nat.le_trans (Nat.pow_le_pow_right (by omega) (show 7 * k ≤ 63 by omega)) (by decide)
theorem mul128_lt {k x : Nat} (hk : k ≤ 9) (hx : x < 128) (h9 : k = 9 → x ≤ 1) : x * 128 ^ k < 18446744073709551616 := by
 rcases Nat.lt_or_ge k 9 with h | h
 ·have h8 : 128 ^ k ≤ 72057594037927936 := by
   rw [pow128]; exact Nat.le_trans (Nat.pow_le_pow_right (by omega) (show 7 * k ≤ 56 by omega)) (by decide)
  have := Nat.mul_le_mul (show x ≤ 127 by omega) h8
  omega
 ·obtain rfl : k = 9 := by omega
  have := Nat.mul_le_mul (h9 rfl) (Nat.le_refl (128 ^ 9))
  have e : 128 ^ 9 = 9223372036854775808 := by decide
  rw [e] at this ⊢
  omega
theorem acc_lt {k acc x : Nat} (hacc : acc < 128 ^ k) (hx : x < 128) : acc + x * 128 ^ k < 128 ^ (k + 1) := by
 rw [Nat.pow_succ]
 have := Nat.mul_le_mul (show x + 1 ≤ 128 by omega) (Nat.le_refl (128 ^ k))
 rw [Nat.add_mul] at this
 omega
theorem or_group {k acc x : Nat} (hk : k ≤ 9) (hacc : acc < 128 ^ k) (hx : x < 256) (h9 : k = 9 → x ≤ 1) :
  bits .or .u64 (acc : Int) (IntKind.u64.wrap ((x : Int) % 128 * 2 ^ (7 * k))) = ((acc + x % 128 * 128 ^ k : Nat) : Int) := by
 have hlt := mul128_lt (k := k) (x := x % 128) hk (by omega) (fun h => by have := h9 h; omega)
 have e : ((x : Int) % 128 * 2 ^ (7 * k)) = ((x % 128 * 128 ^ k : Nat) : Int) := by
  rw [pow128]; push_cast; rfl
 rw [e, IntWalk.u64_in _ (by omega), u64_or_nat _ _ (by have := pow128_le hk; omega) hlt]
 congr 1
 rw [pow128] at hacc ⊢
 rw [Nat.or_comm, Nat.mul_comm, ← Nat.two_pow_add_eq_or_of_lt hacc]
 omega
theorem zig_xor {x : Int} (h0 : -9223372036854775808 ≤ x) (h1 : x ≤ 9223372036854775807) :
  bits .xor .u64 (IntKind.u64.wrap (IntKind.u64.wrap x * 2)) (IntKind.u64.wrap (x / 9223372036854775808)) = ((Lib.zigzag x : Nat) : Int) := by
 by_cases h : x < 0
 ·have e1 : IntKind.u64.wrap (IntKind.u64.wrap x * 2) = (((2 * x + 18446744073709551616).toNat : Nat) : Int) := by
   rw [IntKind.wrap_u64, IntKind.wrap_u64]; omega
  have e2 : IntKind.u64.wrap (x / 9223372036854775808) = ((2 ^ 64 - 1 : Nat) : Int) := by
   rw [IntKind.wrap_u64, show x / 9223372036854775808 = -1 from by omega]; rfl
  rw [e1, e2, bits_xor_u64_nat _ _ (by omega) (by decide), Nat.xor_comm, Lib.xor_ones64 _ (by omega)]
  unfold Lib.zigzag
  rw [if_neg (by omega)]
  omega
 ·have e1 : IntKind.u64.wrap (IntKind.u64.wrap x * 2) = (((2 * x).toNat : Nat) : Int) := by
   rw [IntKind.wrap_u64, IntKind.wrap_u64]; omega
  have e2 : IntKind.u64.wrap (x / 9223372036854775808) = ((0 : Nat) : Int) := by
   rw [IntKind.wrap_u64, show x / 9223372036854775808 = 0 from by omega]; rfl
  rw [e1, e2, bits_xor_u64_nat _ _ (by omega) (by decide), Nat.xor_zero]
  unfold Lib.zigzag
  rw [if_pos (by omega)]
def unzig (n : Nat) : Int := if n % 2 = 1 then -((n / 2 : Nat) : Int) - 1 else ((n / 2 : Nat) : Int)
def takeI (l : List UInt8) : Int × Nat × Nat := (unzig (takeU l).1, (takeU l).2.1, (takeU l).2.2)
theorem tu_lt : ∀ (l : List UInt8) (i acc : Nat), i ≤ 9 → acc < 128 ^ i → (tu i acc l).1 < 18446744073709551616
 | [], _, _, _, _ => by simp [tu]
 | c :: r, i, acc, hi, hacc => by
  unfold tu
  have hc := c.toNat_lt
  split
  ·simp
  ·split
   ·split
    ·simp
    ·have h9 : i = 9 → c.toNat ≤ 1 := by omega
     have hlt := mul128_lt (k := i) (x := c.toNat) hi (by omega) h9
     rcases Nat.lt_or_ge i 9 with h | h
     ·have h1 := acc_lt (x := c.toNat) hacc (by omega)
      have h2 := pow128_le (k := i + 1) (by omega)
      show acc + c.toNat * 128 ^ i < _
      omega
     ·obtain rfl : i = 9 := by omega
      have e9 : 128 ^ 9 = 9223372036854775808 := by decide
      show acc + c.toNat * 128 ^ 9 < _
      have := Nat.mul_le_mul (h9 rfl) (Nat.le_refl (128 ^ 9))
      rw [e9] at this hacc ⊢
      omega
   ·exact tu_lt r (i + 1) _ (by omega) (acc_lt hacc (by omega))
theorem takeU_lt (l : List UInt8) : (takeU l).1 < 18446744073709551616 := tu_lt l 0 0 (by omega) (by decide)
theorem unzig_xor {n : Nat} (hn : n < 18446744073709551616) :
  RowKit.wrap64 (bits .xor .u64 ((n : Int) / 2) (IntKind.u64.wrap (-(bits .and .u64 (n : Int) 1)))) = unzig n := by
 rw [← IntWalk.i64_left]
 rw [Lib.u64_and1 _ (by omega) (by omega)]
 have e0 : (n : Int) / 2 = ((n / 2 : Nat) : Int) := by omega
 unfold unzig
 rw [e0]
 split
 ·rename_i h
  have e2 : IntKind.u64.wrap (-((n : Int) % 2)) = ((2 ^ 64 - 1 : Nat) : Int) := by
   rw [show (n : Int) % 2 = 1 from by omega]; rfl
  rw [e2, bits_xor_u64_nat _ _ (by omega) (by decide), Nat.xor_comm, Lib.xor_ones64 _ (by omega), IntKind.wrap_i64]
  omega
 ·rename_i h
  have e2 : IntKind.u64.wrap (-((n : Int) % 2)) = ((0 : Nat) : Int) := by
   rw [show (n : Int) % 2 = 0 from by omega]; rfl
  rw [e2, bits_xor_u64_nat _ _ (by omega) (by decide), Nat.xor_zero, IntWalk.i64_in _ (by omega)]
theorem tu_len : ∀ (l : List UInt8) (i acc : Nat), (tu i acc l).2.2 = 0 → i + 1 ≤ (tu i acc l).2.1 ∧ (tu i acc l).2.1 ≤ i + l.length
 | [], _, _, h => by simp [tu] at h
 | c :: r, i, acc, h => by
  unfold tu at h ⊢
  split at h
  ·simp at h
  ·split at h
   ·split at h
    ·simp at h
    ·rename_i h1 h2 h3
     rw [if_neg h1, if_pos h2, if_neg h3]
     simp
   ·rename_i h1 h2
    rw [if_neg h1, if_neg h2]
    have := tu_len r (i + 1) _ h
    simp only [List.length_cons]
    omega
theorem takeU_len {l : List UInt8} (h : (takeU l).2.2 = 0) : 1 ≤ (takeU l).2.1 ∧ (takeU l).2.1 ≤ l.length := by
 have := tu_len l 0 0 h
 unfold takeU
 omega
def takeS (l : List UInt8) : List UInt8 × Nat × Nat :=
 if (takeU l).2.2 ≠ 0 then ([], 0, (takeU l).2.2)
 else if l.length - (takeU l).2.1 < (takeU l).1 then ([], 0, 4)
 else ((l.drop (takeU l).2.1).take (takeU l).1, (takeU l).2.1 + (takeU l).1, 0)
theorem tu_uvarint (r : List UInt8) : ∀ (N n i acc : Nat), n ≤ N → n * 128 ^ i < 18446744073709551616 → (0 < i → 0 < n) → i ≤ 9 →
  tu i acc (Lib.uvarint n ++ r) = (acc + n * 128 ^ i, i + (Lib.uvarint n).length, 0)
 | N, n, i, acc, hN, hb, hpos, hi => by
  by_cases h : n < 128
  ·rw [Lib.uvarint_small h]
   have hc : (n.toUInt8).toNat = n := Lib.toUInt8_toNat (by omega)
   simp only [List.cons_append, List.nil_append, tu, hc]
   have h9 : ¬ (i = 9 ∧ 1 < n) := by
    rintro ⟨rfl, h1⟩
    have e9 : 128 ^ 9 = 9223372036854775808 := by decide
    rw [e9] at hb
    omega
   rw [if_neg h9, if_pos h, if_neg (by omega)]
   rfl
  ·have hN' : N ≠ 0 := by omega
   obtain ⟨N', rfl⟩ : ∃ N', N = N' + 1 := ⟨N - 1, by omega⟩
   rw [Lib.uvarint_big (by omega)]
   have hc : ((n % 128 + 128).toUInt8).toNat = n % 128 + 128 := Lib.toUInt8_toNat (by omega)
   have hi9 : i ≠ 9 := by
    rintro rfl
    have e9 : 128 ^ 9 = 9223372036854775808 := by decide
    rw [e9] at hb
    omega
   simp only [List.cons_append, tu, hc]
   rw [if_neg (by omega), if_neg (by omega)]
   have hmul : n / 128 * 128 ^ (i + 1) ≤ n * 128 ^ i := by
    rw [Nat.pow_succ, Nat.mul_comm (128 ^ i) 128, ← Nat.mul_assoc]
    exact Nat.mul_le_mul_right _ (by omega)
   rw [tu_uvarint r N' (n / 128) (i + 1) _ (by omega) (by omega) (by omega) (by omega)]
   have e : acc + (n % 128 + 128 - 128) * 128 ^ i + n / 128 * 128 ^ (i + 1) = acc + n * 128 ^ i := by
    rw [Nat.pow_succ, Nat.mul_comm (128 ^ i) 128, ← Nat.mul_assoc, Nat.add_assoc, ← Nat.add_mul]
    congr 2
    omega
   rw [e]
   simp only [List.length_cons]
   congr 2
   omega
theorem takeU_uvarint {n : Nat} (h : n < 18446744073709551616) (r : List UInt8) : takeU (Lib.uvarint n ++ r) = (n, (Lib.uvarint n).length, 0) := by
 unfold takeU
 rw [tu_uvarint r n n 0 0 (Nat.le_refl _) (by simpa using h) (by omega) (by omega)]
 simp
theorem unzig_zigzag {x : Int} (h0 : -9223372036854775808 ≤ x) (h1 : x ≤ 9223372036854775807) : unzig (Lib.zigzag x) = x := by
 unfold unzig Lib.zigzag
 split
 ·rw [if_neg (by omega)]; omega
 ·rw [if_pos (by omega)]; omega
theorem takeI_zigzag {x : Int} (h0 : -9223372036854775808 ≤ x) (h1 : x ≤ 9223372036854775807) (r : List UInt8) : takeI (Lib.uvarint (Lib.zigzag x) ++ r) = (x, (Lib.uvarint (Lib.zigzag x)).length, 0) := by
 unfold takeI
 rw [takeU_uvarint (Lib.zigzag_lt h0 h1), unzig_zigzag h0 h1]
end Go.Proofs.YtgdapkglofchjaaGreatDoor
namespace Go.Proofs.YtgdapkglofchjaaGreatDoor
open Go.RowKit
def trip (k3 : IntKind) (t : Nat × Nat × Nat) : Ending := .returned (.tuple #[.int .u64 (t.1 : Int), .int .i64 (t.2.1 : Int), .int k3 (t.2.2 : Int)])
theorem trip_of {k3 : IntKind} {t : Nat × Nat × Nat} {a b c : Int} {x y z : Nat} (h : t = (x, y, z)) (h1 : a = x) (h2 : b = y) (h3 : c = z) : Ending.returned (.tuple #[.int .u64 a, .int .i64 b, .int k3 c]) = trip k3 t := by
 subst h h1 h2 h3; rfl
theorem takeUint_any (A : Option Addr) (n c : Nat) (l : List UInt8) (w : World) (B : Nat) (hl : l.length = n) (hm : n ≤ 1000000000) (hs : Seq w B 1 A n (l.map bv)) :
  Calls Tryz.prog 98 #[.slice A n c] w fun e w' => e = trip .i64 (takeU l) ∧ w = w' := by
 go_enter Tryz.func98, Tryz.ntmps98
 repeat' (first | go_skip | go_guarded | go_step)
 go_loop [5, 10] (fun u5 u10 => ∃ (k acc : Nat), k ≤ n ∧ k ≤ 9 ∧ acc < 128 ^ k ∧ u10 = .int .i64 (k : Int) ∧ u5 = .int .u64 (acc : Int) ∧ tu k acc (l.drop k) = takeU l) (fun _ u10 => n - (intOf u10).toNat)
 case atStart => exact ⟨0, 0, by omega, by omega, by simp, rfl, rfl, rfl⟩
 case round =>
  obtain ⟨k, acc, hk, hk9, hacc, rfl, rfl, htu⟩ := hrel
  have Htu := Lib.hid htu; clear htu
  have Hacc := Lib.hid hacc; clear hacc
  by_cases hlt : k < n
  ·obtain ⟨b, o, rfl, hb, hc⟩ := hs.2 (by omega)
   obtain ⟨x, hx⟩ : ∃ x, l[k]? = some x := ⟨l[k]'(by omega), List.getElem?_eq_getElem (by omega)⟩
   have hcell := hc k (bv x) (by simp [hx])
   have Hx := Lib.hid hx; clear hx
   clear hc
   have hx256 : (x.toNat : Int) < 256 := by have := x.toNat_lt; omega
   have hd : (decide ((k : Int) < n)) = true := by simpa using hlt
   have hor := fun h9 => or_group (x := x.toNat) hk9 Hacc.out (by omega) h9
   have Hor := Lib.hid hor; clear hor
   have H9 : Hid (k = 9 ↔ ((k : Int) == 9) = true) := by unfold Hid; simp; omega
   have H0 : Hid (x.toNat = 0 ↔ ((x.toNat : Int) == 0) = true) := by unfold Hid; simp
   rcases Bool.eq_false_or_eq_true ((k : Int) == 9) with e9 | e9 <;> rcases Bool.eq_false_or_eq_true ((x.toNat : Int) == 0) with e0 | e0
   all_goals
    have h9 := H9.out
    have h0 := H0.out
    rw [e9] at h9
    rw [e0] at h0
    clear H9 H0
    have H9 := Lib.hid h9; clear h9
    have H0 := Lib.hid h0; clear h0
    repeat' (first | go_skip | go_guarded | go_step)
   all_goals have h9 := H9.out
   all_goals have h0 := H0.out
   all_goals simp only [iff_true, Bool.false_eq_true, iff_false] at h9 h0
   all_goals first
    | (go_ret3; exact ⟨trip_of (Htu.out.symm.trans (by subst h9; exact tu_nine Hx.out (by omega))) rfl rfl rfl, rfl⟩)
    | (go_ret3; exact ⟨trip_of (Htu.out.symm.trans (tu_zero Hx.out h0 (by omega))) rfl rfl rfl, rfl⟩)
    | (go_ret3; refine ⟨trip_of (Htu.out.symm.trans (tu_last Hx.out (by omega) (by omega) (by omega))) ?_ rfl rfl, rfl⟩; rw [Hor.out (by omega)]; congr 2; rw [Nat.mod_eq_of_lt (by omega)])
    | skip
   all_goals
    have hge : (128 : Int) ≤ (x.toNat : Int) := by assumption
    first | (exfalso; omega) | skip
   all_goals
    have hge : (128 : Int) ≤ (x.toNat : Int) := by assumption
    go_round
    case rel =>
     refine ⟨k + 1, acc + (x.toNat - 128) * 128 ^ k, by omega, by omega, acc_lt Hacc.out (by omega), by go_num, ?_, ?_⟩
     ·rw [Hor.out (by omega), show x.toNat % 128 = x.toNat - 128 from by omega]
     ·rw [← Htu.out]; exact (tu_more Hx.out h9 (by omega)).symm
    case measure => simp [intOf]; omega
  ·repeat' (first | go_skip | go_guarded | go_step)
   go_ret3
   exact ⟨trip_of (Htu.out.symm.trans (tu_end (by omega))) rfl rfl rfl, rfl⟩
theorem putInt_any (x : Int) (w : World) (h0 : -9223372036854775808 ≤ x) (h1 : x ≤ 9223372036854775807) :
  Calls Tryz.prog 102 #[.int .i64 x] w (RetBytes w (Lib.uvarint (Lib.zigzag x))) := by
 have H0 := Lib.hid h0; clear h0
 have H1 := Lib.hid h1; clear h1
 go_enter Tryz.func102, Tryz.ntmps102
 repeat' (first | go_skip | go_guarded | go_step)
 rw [zig_xor H0.out H1.out]
 refine (putUint_any _ _ (U64.mk (Lib.zigzag_lt H0.out H1.out))).mono ?_
 rintro e w1 ⟨A, c, rfl, h⟩
 dsimp only
 repeat' (first | go_skip | go_guarded | go_step)
 go_ret
 exact ⟨A, c, rfl, h⟩
def itrip (t : Int × Nat × Nat) : Ending := .returned (.tuple #[.int .i64 t.1, .int .i64 (t.2.1 : Int), .int .i64 (t.2.2 : Int)])
theorem itrip_of {t : Int × Nat × Nat} {a b c x : Int} {y z : Nat} (h : t = (x, y, z)) (h1 : a = x) (h2 : b = y) (h3 : c = z) : Ending.returned (.tuple #[.int .i64 a, .int .i64 b, .int .i64 c]) = itrip t := by
 subst h h1 h2 h3; rfl
theorem takeInt_any (A : Option Addr) (n c : Nat) (l : List UInt8) (w : World) (B : Nat) (hl : l.length = n) (hm : n ≤ 1000000000) (hs : Seq w B 1 A n (l.map bv)) :
  Calls Tryz.prog 135 #[.slice A n c] w fun e w' => e = itrip (takeI l) ∧ w = w' := by
 have hT := takeU_lt l
 unfold takeI
 have C := takeUint_any A n c l w B hl hm hs
 generalize takeU l = T at hT C ⊢
 obtain ⟨a, b, k⟩ := T
 have HT := Lib.hid hT; clear hT
 go_enter Tryz.func135, Tryz.ntmps135
 repeat' (first | go_skip | go_guarded | go_step)
 refine C.mono ?_; unfold trip; rintro e w' ⟨rfl, rfl⟩; dsimp only
 repeat' (first | go_skip | go_guarded | go_step)
 go_ret3
 exact ⟨itrip_of rfl (unzig_xor HT.out) rfl rfl, rfl⟩
def strip (t : List UInt8 × Nat × Nat) : Ending := .returned (.tuple #[.string ⟨t.1.toArray⟩, .int .i64 (t.2.1 : Int), .int .i64 (t.2.2 : Int)])
theorem strip_of {t : List UInt8 × Nat × Nat} {s : ByteArray} {b c : Int} {x : List UInt8} {y z : Nat} (h : t = (x, y, z)) (h1 : s = ⟨x.toArray⟩) (h2 : b = y) (h3 : c = z) : Ending.returned (.tuple #[.string s, .int .i64 b, .int .i64 c]) = strip t := by
 subst h h1 h2 h3; rfl
theorem takeStr_any (A : Option Addr) (n c : Nat) (l : List UInt8) (w : World) (B : Nat) (hl : l.length = n) (hm : n ≤ 1000000000) (hc : n ≤ c) (hs : Seq w B 1 A n (l.map bv)) :
  Calls Tryz.prog 136 #[.slice A n c] w fun e w' => e = strip (takeS l) ∧ w = w' := by
 have hT := takeU_lt l
 have hK := @takeU_len l
 unfold takeS
 have C := takeUint_any A n c l w B hl hm hs
 generalize takeU l = T at hT hK C ⊢
 obtain ⟨a, b, k⟩ := T
 dsimp only at hT hK ⊢
 have HT := Lib.hid hT; clear hT
 have HK := Lib.hid hK; clear hK
 by_cases hk : k = 0
 ·subst hk
  have hb := HK.out rfl
  have hsub : IntKind.i64.wrap ((n : Int) - b) = (n : Int) - b := IntWalk.i64_in _ (by omega)
  have hsub2 : IntKind.u64.wrap ((n : Int) - b) = (n : Int) - b := IntWalk.u64_in _ (by omega)
  go_enter Tryz.func136, Tryz.ntmps136
  repeat' (first | go_skip | go_guarded | go_step)
  refine C.mono ?_; unfold trip; rintro e w' ⟨rfl, rfl⟩; dsimp only
  repeat' (first | (with_reducible (show wpList _ _ _ (_ :: _) _ _)); refine wp_bytes_str (B := B) (l := (l.drop b).take a) Tryz.underlying47 Tryz.underlying5 Tryz.underlying9 ?_ ?_ | go_skip | go_guarded | go_step)
  ·go_ret3
   have hlt : (n : Int) - b < a := by assumption
   exact ⟨strip_of (x := []) (by rw [if_neg (by simp), if_pos (by omega)]) rfl rfl rfl, rfl⟩
  ·have hle : (a : Int) ≤ n - b := by assumption
   have := hs.sub1 (lo := b) (hi := b + a) (by omega) (by omega) hc
   rw [← List.map_drop, ← List.map_take, show b + a - b = a from by omega] at this
   rw [show b + a - b = a from by omega]
   exact this
  ·go_ret3
   have hle : (a : Int) ≤ n - b := by assumption
   exact ⟨strip_of (x := (l.drop b).take a) (by rw [if_neg (by simp), if_neg (by omega)]) rfl rfl rfl, rfl⟩
 ·have hk' : ((k : Int) == 0) = false := by simp; omega
  go_enter Tryz.func136, Tryz.ntmps136
  repeat' (first | go_skip | go_guarded | go_step)
  refine C.mono ?_; unfold trip; rintro e w' ⟨rfl, rfl⟩; dsimp only
  repeat' (first | go_skip | go_guarded | go_step)
  all_goals first | (exfalso; simp_all; done) | skip
  go_ret3
  exact ⟨strip_of (x := []) (by rw [if_pos hk]) rfl rfl rfl, rfl⟩
theorem Bytes.app {w0 w : World} {v : Value} {l m : List UInt8} {k : Nat} (h : Own w0 w 5 1 v (l.length + k) (l.map bv ++ m.map bv)) (hk : k = m.length) : Bytes w0 w v (l ++ m) := by
 subst hk
 unfold Bytes
 simpa using h
theorem putStr_any (s : ByteArray) (w : World) (hm : s.size ≤ 1000000000000) :
  Calls Tryz.prog 103 #[.string s] w (RetBytes w (Lib.uvarint s.size ++ s.data.toList)) := by
 have hb := Lib.uvarint_length64 (x := s.size) (by omega)
 have Hb := Lib.hid hb; clear hb
 go_enter Tryz.func103, Tryz.ntmps103
 repeat' (first | go_skip | go_guarded | go_step)
 refine (putUint_any _ _ (U64.mk (by omega))).mono ?_
 rintro e w1 ⟨A, c, rfl, h⟩
 dsimp only
 have hb : (Lib.uvarint s.size).length + s.size ≤ 140737488355328 := by have := Hb.out; omega
 repeat' (first | (at_builtin; refine wp_appStr h Tryz.underlying47 Tryz.underlying9 u8_info hb ?_; intro v2 w2 h2 _) | go_skip | go_guarded | go_step)
 go_ret
 exact Bytes.ret (Bytes.app h2 (by rfl))
end Go.Proofs.YtgdapkglofchjaaGreatDoor
