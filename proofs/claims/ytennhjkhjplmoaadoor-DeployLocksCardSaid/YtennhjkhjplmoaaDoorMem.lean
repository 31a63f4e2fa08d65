/- Words for memory: a slice that reads as a list of cells; append onto a row of the call's own. No program in sight. -/
import Derived.WalkKit
import Derived.WalkSpells
import Derived.WalkLawsBesides
import Derived.Lib.Hide
import Derived.Lib.AppendStr
import Derived.Maps.AppendAt
namespace Go.Proofs.YtennhjkhjplmoaaDoor
open Go.RowKit

theorem ret_b {x y : Bool} (h : x = y) : Ending.returned (.bool x) = .returned (.bool y) := by rw [h]
theorem ret_i {k : IntKind} {x y : Int} (h : x = y) : Ending.returned (.int k x) = .returned (.int k y) := by rw [h]
/-- what a contract leaves of the caller's cells, as two rules for the walk -/
theorem bcell {w w1 : World} (hb : Below w.heap.size w w1) :
    (∀ b o, b < w.heap.size → w1.cell? ⟨b, o, none⟩ = w.cell? ⟨b, o, none⟩) ∧ (∀ b o, b < w.heap.size → w1.frozen? ⟨b, o, none⟩ = w.frozen? ⟨b, o, none⟩) :=
  ⟨fun b o h => hb.cell (p := ⟨b, o, none⟩) h, fun b o h => hb.frozen (p := ⟨b, o, none⟩) h⟩
theorem Below.box {B : Nat} {a w : World} (h : Below B a w) (hB : B ≤ a.heap.size) (o : Obj) : Below B a (w.alloc o) := h.alloc (Nat.le_trans hB h.size) o

/-- the element type's row of the table -/
def Info (P : Program) (e : TypeId) (z : Value) (size bytes : Nat) : Prop :=
  (P.info? e).map (fun i => (i.zero, i.size, i.bytes)) = some (some z, size, bytes)

/-- the slice value '.slice A n c' holds the cells cs (sz a element), in a block of which S says yes -/
def SeqP (w : World) (S : Nat → Prop) (sz : Nat) (A : Option Addr) (n : Nat) (cs : List Value) : Prop :=
  cs.length = n * sz ∧ (0 < n → ∃ b o, A = some ⟨b, o, none⟩ ∧ S b ∧ ∀ j u, cs[j]? = some u → w.cell? ⟨b, o + j, none⟩ = some u)
/-- .. below block B -/
abbrev Seq (w : World) (B sz : Nat) (A : Option Addr) (n : Nat) (cs : List Value) : Prop := SeqP w (fun b => b < B) sz A n cs

section
variable {w w' : World} {B B' sz n : Nat} {A : Option Addr} {cs : List Value} {S S' : Nat → Prop}
theorem SeqP.nil_ : SeqP w S sz none 0 [] := ⟨by simp, fun h => absurd h (by omega)⟩
theorem SeqP.empty (A : Option Addr) : SeqP w S sz A 0 [] := ⟨by simp, fun h => absurd h (by omega)⟩
theorem SeqP.map (h : SeqP w S sz A n cs) (hk : ∀ p : Addr, S p.block → w'.cell? p = w.cell? p) (hS : ∀ b, S b → S' b) : SeqP w' S' sz A n cs :=
  ⟨h.1, fun hn => by
    obtain ⟨b, o, e, hb, hc⟩ := h.2 hn
    exact ⟨b, o, e, hS b hb, fun j u hu => (hk ⟨b, o + j, none⟩ hb).trans (hc j u hu)⟩⟩
theorem SeqP.imp (h : SeqP w S sz A n cs) (hS : ∀ b, S b → S' b) : SeqP w S' sz A n cs := h.map (fun _ _ => rfl) hS
theorem Seq.nil_ : Seq w B sz none 0 [] := SeqP.nil_
theorem Seq.keep (h : Seq w B sz A n cs) (hk : ∀ p : Addr, p.block < B → w'.cell? p = w.cell? p) : Seq w' B sz A n cs := SeqP.map h hk fun _ hb => hb
theorem Seq.more (h : Seq w B sz A n cs) (hB : B ≤ B') : Seq w B' sz A n cs := SeqP.imp h fun _ hb => Nat.lt_of_lt_of_le hb hB
theorem Seq.below (h : Seq w B sz A n cs) (hb : Below B w w') : Seq w' B sz A n cs := h.keep fun _ hp => hb.cell hp
theorem Seq.of_own {base : Nat} {e : TypeId} {c : Nat} (h : w.ownsRow base e sz (.slice A n c) n cs) : Seq w w.heap.size sz A n cs := by
  refine ⟨h.1, fun hn => ?_⟩
  rcases h.2 with ⟨hv, h0⟩ | ⟨g, cap, cur, hv, hb, hg, hnc, _, hcs, ht⟩
  · omega
  · injection hv with hA
    subst hA
    refine ⟨g, 0, rfl, (Array.getElem?_eq_some_iff.1 hg).1, fun j u hu => ?_⟩
    have := h.cells (g := g) rfl j u hu
    rw [Addr.add_lit] at this
    exact this
/-- 's[k:]' -/
theorem Seq.cut (h : Seq w B sz A n cs) {k cap : Nat} (hk : k ≤ n) (hc : n ≤ cap) :
    Seq w B sz (if cap = k then A else A.map (·.add (k * sz))) (n - k) (cs.drop (k * sz)) := by
  refine ⟨by rw [List.length_drop, h.1, Nat.sub_mul], fun hn => ?_⟩
  obtain ⟨b, o, rfl, hb, hcell⟩ := h.2 (by omega)
  rw [if_neg (by omega)]
  refine ⟨b, o + k * sz, by simp [Addr.add_lit], hb, fun j u hu => ?_⟩
  rw [Nat.add_assoc]
  exact hcell _ u (by rw [← hu, List.getElem?_drop])
end

/-- what an append onto v has done: v's own row may have been written, new blocks may have come; the new value lies in v's row or in a new block -/
structure Grew (w w' : World) (v v' : Value) : Prop where
  by_ : w.grownBy w' v.ownBlock
  at_ : v'.ownBlock = v.ownBlock ∨ v'.ownBlock = some w.heap.size
theorem Grew.cell {w w' : World} {v v' : Value} (h : Grew w w' v v') {p : Addr} (h1 : p.block < w.heap.size) (h2 : some p.block ≠ v.ownBlock) : w'.cell? p = w.cell? p := World.cell?_of_block (h.by_.block p.block h1 h2)
theorem Grew.frozen {w w' : World} {v v' : Value} (h : Grew w w' v v') {p : Addr} (h1 : p.block < w.heap.size) (h2 : some p.block ≠ v.ownBlock) : w'.frozen? p = w.frozen? p := World.frozen?_of_block (h.by_.block p.block h1 h2)
theorem Grew.ne {w w' : World} {v v' : Value} (h : Grew w w' v v') {b : Nat} (h1 : b < w.heap.size) (h2 : some b ≠ v.ownBlock) : some b ≠ v'.ownBlock := by
  rcases h.at_ with e | e <;> rw [e]
  · exact h2
  · intro hh; injection hh with hh; omega

/-- the slice value v, of n elements (sz cells each), owns the cells xs in a block that W0 did not have; what W0 had is as it was -/
def Own (W0 w : World) (e : TypeId) (sz : Nat) (v : Value) (n : Nat) (xs : List Value) : Prop :=
  w.ownsRow W0.heap.size e sz v n xs ∧ Below W0.heap.size W0 w

section
variable {P : Program} {ops : Array Oper} {rest : List Oper} {o : Oper} {a : Act} {Q : Exit → Act → World → Prop} {w W0 : World} {e : TypeId} {size n : Nat} {v : Value} {xs : List Value}
theorem Own.nil_ (w : World) (e : TypeId) (sz : Nat) : Own w w e sz (.slice none 0 0) 0 [] := ⟨World.ownsRow_nil _ _ _ _, Below.refl _ _⟩

/-- append of elements that the walk has just laid in a block of its own, onto a row of the call's own -/
theorem wp_appL (H : Own W0 w e size v n xs) {t : TypeId} {z : Value} {bytes m : Nat} (ht : P.underlying t = some (.slice e)) (hi : Info P e z size bytes)
    (hbytes : (n + m) * bytes ≤ 140737488355328) {cs : Array Value}
    (h : ∀ v' w', Own W0 w' e size v' (n + m) (xs ++ cs.toList) → Grew (w.alloc (.cells cs e)) w' v v' → wpList P ops Q rest (a.put o.dst v') w')
    {s x : Operand} {g : Nat} (hgd : o.guard = none := by rfl) (ho : o.op = .call { callee := .builtin .append, args := #[s, x], argTypes := #[t, t] } := by rfl)
    (hs : a.eval s = v := by rfl) (hx : a.eval x = .slice (some ⟨g, 0, none⟩) m m := by rfl) (hgs : g = w.heap.size := by first | rfl | simp) (hzs : z.cells.size = size := by rfl) (hsz : 0 < size := by decide) (hby : 0 < bytes := by decide)
    (hcs : cs.size = m * size := by rfl) (h1 : cs.toList.all Value.oneCell' = true := by rfl) :
    wpList P ops Q (o :: rest) a (w.alloc (.cells cs e)) := by
  subst hgs
  obtain ⟨hown, hB⟩ := H
  have hn := Nat.le_trans (Nat.le_mul_of_pos_right (n + m) hby) hbytes
  obtain ⟨i, hi1, hi2, hi3, hi4⟩ := info_parts hi
  refine wpList_append_own_at _ hgd s x t ho W0.heap.size e i z size bytes ht hi1 hi2 hi3 hi4 hzs hsz v n xs hs (hown.alloc _) ⟨w.heap.size, 0, none⟩ m m cs.toList hx (by simpa using hcs) ?_ (List.all_eq_true.1 h1) (by unfold maxLen; omega) hbytes
    (by have := hB.size; simp; omega) ?_
  · intro j u hu
    rw [Addr.add_lit, Nat.zero_add]
    have := cell_of_row (w.alloc (.cells cs e)) w.heap.size j cs e (0, 0) (heap_alloc_new w _)
    rw [this]
    simpa using hu
  · intro v' w' hown' hg _ hat
    refine h v' w' ⟨hown', ?_⟩ ⟨hg, hat⟩
    exact (hB.alloc hB.size _).grown hg (by have := hB.size; simp; omega) (fun k hk => (hown.lt k hk).1)

/-- append of ONE element that the walk has just laid in a block of its own, onto a row of the call's own -/
theorem wp_app1 (H : Own W0 w e size v n xs) {t : TypeId} {z : Value} {bytes : Nat} (ht : P.underlying t = some (.slice e)) (hi : Info P e z size bytes)
    (hbytes : (n + 1) * bytes ≤ 140737488355328) {cs : Array Value}
    (h : ∀ v' w', Own W0 w' e size v' (n + 1) (xs ++ cs.toList) → Grew (w.alloc (.cells cs e)) w' v v' → wpList P ops Q rest (a.put o.dst v') w')
    {s x : Operand} {g : Nat} (hgd : o.guard = none := by rfl) (ho : o.op = .call { callee := .builtin .append, args := #[s, x], argTypes := #[t, t] } := by rfl)
    (hs : a.eval s = v := by rfl) (hx : a.eval x = .slice (some ⟨g, 0, none⟩) 1 1 := by rfl) (hgs : g = w.heap.size := by first | rfl | simp) (hzs : z.cells.size = size := by rfl) (hsz : 0 < size := by decide) (hby : 0 < bytes := by decide)
    (hcs : cs.size = size := by rfl) (h1 : cs.toList.all Value.oneCell' = true := by rfl) :
    wpList P ops Q (o :: rest) a (w.alloc (.cells cs e)) :=
  wp_appL H ht hi hbytes h hgd ho hs hx hgs hzs hsz hby (by rw [Nat.one_mul]; exact hcs) h1

theorem Own.slice_form (H : Own W0 w e size v n xs) : ∃ A c, v = .slice A n c := by
  rcases H.1.2 with ⟨rfl, rfl⟩ | ⟨g, cap, cur, rfl, _⟩
  · exact ⟨none, 0, rfl⟩
  · exact ⟨_, _, rfl⟩
theorem Own.seq {A : Option Addr} {c : Nat} (H : Own W0 w e size (.slice A n c) n xs) : Seq w w.heap.size size A n xs := Seq.of_own H.1
theorem ownsRow_mono {base base' : Nat} (h : w.ownsRow base e size v n xs) (hb : base' ≤ base) : w.ownsRow base' e size v n xs := by
  refine ⟨h.1, ?_⟩
  rcases h.2 with h2 | ⟨g, cap, cur, hv, hg, r⟩
  · exact .inl h2
  · exact .inr ⟨g, cap, cur, hv, by omega, r⟩
theorem Own.up {W1 : World} (h : Below W0.heap.size W0 W1) (H : Own W1 w e size v n xs) : Own W0 w e size v n xs :=
  ⟨ownsRow_mono H.1 h.size, h.trans (H.2.mono h.size)⟩
theorem Own.cap_le {A : Option Addr} {c : Nat} (H : Own W0 w e size (.slice A n c) n xs) : n ≤ c := by
  rcases H.1.2 with ⟨hv, h0⟩ | ⟨g, cap, cur, hv, _, _, hn, _⟩
  · injection hv; omega
  · injection hv; omega

theorem run_append_of_nil {base : Nat} {t ty : TypeId} {i : TypeInfo} (ht : P.underlying t = some (.slice e)) (hi : P.info? e = some i)
    (hown : w.ownsRow base e size v n xs) (c : Nat) : (Builtin.append_ #[t, t] ty #[v, .slice none 0 c]).run P w = .ok v w := by
  rcases hown.2 with ⟨rfl, rfl⟩ | ⟨g, cap, cur, rfl, _, _, hnc, _⟩
  · simp [Builtin.append_, run_underlying ht, sizeOf, typeInfo, hi, Builtin.lenOf, Builtin.firstCells]
  · simp [Builtin.append_, run_underlying ht, sizeOf, typeInfo, hi, Builtin.lenOf, Builtin.firstCells, hnc, storeCells]

/-- append of a slice that reads as a list, onto a row of the call's own -/
theorem wp_appS (H : Own W0 w e size v n xs) {t : TypeId} {z : Value} {bytes : Nat} (ht : P.underlying t = some (.slice e)) (hi : Info P e z size bytes)
    {A : Option Addr} {m c B : Nat} {news : List Value} (hr : Seq w B size A m news) (h1 : ∀ u ∈ news, u.oneCell' = true)
    (hbytes : (n + m) * bytes ≤ 140737488355328)
    (h : ∀ v' w', Own W0 w' e size v' (n + m) (xs ++ news) → Grew w w' v v' → wpList P ops Q rest (a.put o.dst v') w')
    {s x : Operand} (hgd : o.guard = none := by rfl) (ho : o.op = .call { callee := .builtin .append, args := #[s, x], argTypes := #[t, t] } := by rfl)
    (hs : a.eval s = v := by rfl) (hx : a.eval x = .slice A m c := by rfl) (hzs : z.cells.size = size := by rfl) (hsz : 0 < size := by decide) (hby : 0 < bytes := by decide) :
    wpList P ops Q (o :: rest) a w := by
  obtain ⟨hown, hB⟩ := H
  have hn := Nat.le_trans (Nat.le_mul_of_pos_right (n + m) hby) hbytes
  obtain ⟨i, hi1, hi2, hi3, hi4⟩ := info_parts hi
  have hnil : ∀ c', m = 0 → news = [] → (c' = c ∧ A = none) → wpList P ops Q (o :: rest) a w := by
    rintro c' rfl rfl ⟨rfl, rfl⟩
    refine wpList_plain hgd fun K hK => ?_
    have hr := run_append_of_nil (P := P) (t := t) (ty := o.type) ht hi1 hown c'
    unfold Oper.wp execOp
    simp only [ho, resolve, invoke, builtin, Sem.run_bind, Sem.run_pure, Result.andThen_ok, List.map_toArray, List.map_cons, List.map_nil, hs, hx, hr]
    exact hK _ _ (h v w ⟨by simpa using hown, hB⟩ ⟨World.grownBy.refl _ _, .inl rfl⟩)
  rcases A with _ | ad
  · have hm : m = 0 := by
      rcases Nat.eq_zero_or_pos m with h0 | h0
      · exact h0
      · obtain ⟨_, _, h, _⟩ := hr.2 h0
        cases h
    exact hnil c hm (List.eq_nil_of_length_eq_zero (by rw [hr.1, hm]; simp)) ⟨rfl, rfl⟩
  · refine wpList_append_own_at _ hgd s x t ho W0.heap.size e i z size bytes ht hi1 hi2 hi3 hi4 hzs hsz v n xs hs hown ad m c news hx hr.1 ?_ h1 (by unfold maxLen; omega) hbytes hB.size ?_
    · intro j u hu
      rcases Nat.eq_zero_or_pos m with h0 | h0
      · have : news = [] := List.eq_nil_of_length_eq_zero (by rw [hr.1, h0]; simp)
        subst this
        simp at hu
      · obtain ⟨b, o', hA, _, hc⟩ := hr.2 h0
        injection hA with hA
        subst hA
        rw [Addr.add_lit]
        exact hc j u hu
    · intro v' w' hown' hg _ hat
      exact h v' w' ⟨hown', hB.grown hg hB.size (fun k hk => (hown.lt k hk).1)⟩ ⟨hg, hat⟩

/-- append of a string's bytes -/
theorem wp_appStr (H : Own W0 w e 1 v n xs) {t u : TypeId} (ht : P.underlying t = some (.slice e)) (hu : P.underlying u = some .string) (hi : Info P e (.int .u8 0) 1 1)
    {str : ByteArray} (hbytes : n + str.size ≤ 140737488355328)
    (h : ∀ v' w', Own W0 w' e 1 v' (n + str.size) (xs ++ Lib.strCells str) → w.grownBy w' v.ownBlock → wpList P ops Q rest (a.put o.dst v') w')
    {s x : Operand} (hgd : o.guard = none := by rfl) (ho : o.op = .call { callee := .builtin .append, args := #[s, x], argTypes := #[t, u] } := by rfl)
    (hs : a.eval s = v := by rfl) (hx : a.eval x = .string str := by rfl) :
    wpList P ops Q (o :: rest) a w := by
  obtain ⟨hown, hB⟩ := H
  obtain ⟨i, hi1, hi2, hi3, hi4⟩ := info_parts hi
  refine Lib.wpList_append_own_string _ hgd s x t u ho W0.heap.size e i ht hu hi1 hi2 hi3 hi4 v n xs hs hown str hx (by unfold maxLen; omega) hbytes hB.size ?_
  intro v' w' hown' hg _
  exact h v' w' ⟨hown', hB.grown hg hB.size (fun k hk => (hown.lt k hk).1)⟩ hg
end

abbrev bv (c : UInt8) : Value := .int .u8 (c.toNat : Int)
theorem strCells_eq (s : ByteArray) : Lib.strCells s = s.data.toList.map bv := rfl
theorem bv_one (l : List UInt8) : ∀ u ∈ l.map bv, u.oneCell' = true := by
  intro u hu
  obtain ⟨c, _, rfl⟩ := List.mem_map.1 hu
  rfl
/-- 'string(b)' -/
theorem run_bytes_str {P : Program} {w : World} {B n c : Nat} {A : Option Addr} {l : List UInt8} {src e dst : TypeId} (hr : Seq w B 1 A n (l.map bv)) (hs : P.underlying src = some (.slice e)) (he : P.underlying e = some (.int .u8))
    (hd : P.underlying dst = some .string) : (convert src dst (.slice A n c)).run P w = .ok (.string ⟨l.toArray⟩) w := by
  have hl : l.length = n := by simpa using hr.1
  rcases A with _ | ad
  · have hm : n = 0 := by
      rcases Nat.eq_zero_or_pos n with h0 | h0
      · exact h0
      · obtain ⟨_, _, h, _⟩ := hr.2 h0
        cases h
    subst hm
    have : l = [] := List.eq_nil_of_length_eq_zero hl
    subst this
    rw [run_convert_bytes_nil w src e hs he 0 c dst hd]
    rfl
  · rcases Nat.eq_zero_or_pos n with h0 | h0
    · subst h0
      have : l = [] := List.eq_nil_of_length_eq_zero hl
      subst this
      rw [run_convert_bytes_string w src dst e _ 0 c hs he hd, run_bytesToString w _ 0 c [] (by simp [loadCells, loadCellsFrom])]
      rfl
    · obtain ⟨b, o, hA, _, hc⟩ := hr.2 h0
      injection hA with hA
      subst hA
      have := run_convert_bytes_arg (P := P) w src e hs he b o n c (l.map fun x => (x.toNat : Int)) (by simpa using hl) (fun i hi => by
        have hx : l[i]? = some (l[i]'(by omega)) := List.getElem?_eq_getElem (by omega)
        rw [hc i (bv (l[i]'(by omega))) (by simp [hx])]
        simp [hx]) dst hd
      rw [this]
      congr 2
      unfold strOfNums
      simp only [List.map_map, Function.comp_def, Int.toNat_natCast]
      congr 2
      exact List.map_id'' (fun x => by simp) _

/-- 's[lo:hi]' -/
theorem Seq.sub {w : World} {B sz n c : Nat} {A : Option Addr} {cs : List Value} (h : Seq w B sz A n cs) {lo hi : Nat} (h1 : lo ≤ hi) (h2 : hi ≤ n) (hc : n ≤ c) :
    Seq w B sz (if c = lo then A else A.map (fun x => x.add (lo * sz))) (hi - lo) ((cs.drop (lo * sz)).take ((hi - lo) * sz)) := by
  have hle : hi * sz ≤ n * sz := Nat.mul_le_mul_right _ h2
  have hle1 : lo * sz ≤ hi * sz := Nat.mul_le_mul_right _ h1
  refine ⟨by rw [List.length_take, List.length_drop, h.1, Nat.sub_mul]; omega, fun hn => ?_⟩
  obtain ⟨b, o, rfl, hb, hcell⟩ := h.2 (by omega)
  rw [if_neg (by omega)]
  refine ⟨b, o + lo * sz, by simp [Addr.add_lit], hb, fun j u hu => ?_⟩
  rw [Nat.add_assoc]
  refine hcell _ u ?_
  rw [List.getElem?_take] at hu
  split at hu
  · rw [← hu, List.getElem?_drop]
  · cases hu
theorem Seq.sub1 {w : World} {B n c : Nat} {A : Option Addr} {cs : List Value} (h : Seq w B 1 A n cs) {lo hi : Nat} (h1 : lo ≤ hi) (h2 : hi ≤ n) (hc : n ≤ c) :
    Seq w B 1 (if c = lo then A else A.map (fun x => x.add lo)) (hi - lo) ((cs.drop lo).take (hi - lo)) := by
  have := h.sub h1 h2 hc
  simpa only [Nat.mul_one] using this

/-- 'string(b)' at the operation -/
theorem wp_bytes_str {P : Program} {ops : Array Oper} {rest : List Oper} {o : Oper} {a : Act} {Q : Exit → Act → World → Prop} {w : World} {B n c : Nat} {A : Option Addr} {l : List UInt8} {src e dst : TypeId}
    (hs : P.underlying src = some (.slice e)) (he : P.underlying e = some (.int .u8)) (hd : P.underlying dst = some .string) (hr : Seq w B 1 A n (l.map bv))
    (h : wpList P ops Q rest (a.put o.dst (.string ⟨l.toArray⟩)) w) {x : Operand} (hgd : o.guard = none := by rfl) (ho : o.op = .convert src dst x := by rfl) (hx : a.eval x = .slice A n c := by rfl) :
    wpList P ops Q (o :: rest) a w := by
  refine wpList_plain hgd fun K hK => ?_
  unfold Oper.wp execOp
  simp only [ho, hx, Sem.run_bind, run_bytes_str hr hs he hd]
  exact hK _ _ h

/-- what is owned stays owned behind a call that leaves alone all that it found -/
theorem Own.below {W0 w w' : World} {e : TypeId} {size n : Nat} {v : Value} {xs : List Value} (H : Own W0 w e size v n xs) (hb : Below w.heap.size w w') : Own W0 w' e size v n xs := by
  refine ⟨H.1.kept (row := none) ⟨hb.os, hb.tape, hb.output, hb.size, fun k hk _ => hb.block k hk⟩ ?_, H.2.trans (hb.mono H.2.size)⟩
  cases hv : v.ownBlock <;> simp
theorem Own.alloc {W0 w : World} {e : TypeId} {size n : Nat} {v : Value} {xs : List Value} (H : Own W0 w e size v n xs) (o : Obj) : Own W0 (w.alloc o) e size v n xs := H.below ((Below.refl _ _).alloc (Nat.le_refl _) o)

/-- what lies in a block that is not the row's own is as it was, behind an append onto the row -/
theorem Own.far {W0 w wa w' : World} {e : TypeId} {size n : Nat} {v v' : Value} {xs : List Value} (H : Own W0 w e size v n xs) (hg : Grew wa w' v v') {b : Nat} (h1 : w.heap.size ≤ b) (h2 : b < wa.heap.size) :
    (∀ o, w'.cell? ⟨b, o, none⟩ = wa.cell? ⟨b, o, none⟩) ∧ (∀ o, w'.frozen? ⟨b, o, none⟩ = wa.frozen? ⟨b, o, none⟩) := by
  have hne : some b ≠ v.ownBlock := fun e => by have := (H.1.lt b e.symm).2; omega
  exact ⟨fun o => hg.cell (p := ⟨b, o, none⟩) h2 hne, fun o => hg.frozen (p := ⟨b, o, none⟩) h2 hne⟩
/-- .. in words on which the invariants of a loop are built: a block that is not the row's own stays another than the row's own -/
theorem Own.lt {W0 w : World} {e : TypeId} {size n : Nat} {v : Value} {xs : List Value} (H : Own W0 w e size v n xs) {b : Nat} (hb : w.heap.size ≤ b) : some b ≠ v.ownBlock := fun e => by have := (H.1.lt b e.symm).2; omega
theorem Own.old {W0 w : World} {e : TypeId} {size n : Nat} {v : Value} {xs : List Value} (H : Own W0 w e size v n xs) {b : Nat} (hb : b < W0.heap.size) : some b ≠ v.ownBlock := fun e => by have := (H.1.lt b e.symm).1; omega
/-- 'S{}', a slice literal without elements -/
theorem Own.empty_lit (w : World) (e : TypeId) (sz : Nat) : Own w (w.alloc (.cells #[] e)) e sz (.slice (some ⟨w.heap.size, 0, none⟩) 0 0) 0 [] := by
  refine ⟨?_, (Below.refl _ _).alloc (Nat.le_refl _) _⟩
  have := World.ownsRow_lit (base := w.heap.size) (e := e) (size := sz) w #[] 0 (Nat.le_refl _) (by unfold maxLen; omega) (by simp)
  simpa using this

/-- where an owned slice that is not empty lies -/
theorem Own.head {W0 w : World} {e : TypeId} {size n c : Nat} {A : Option Addr} {xs : List Value} (H : Own W0 w e size (.slice A n c) n xs) (hn : 0 < n) :
    ∃ g, A = some ⟨g, 0, none⟩ ∧ W0.heap.size ≤ g ∧ g < w.heap.size ∧ (∀ j u, xs[j]? = some u → w.cell? ⟨g, j, none⟩ = some u) ∧ (∀ j, w.frozen? ⟨g, j, none⟩ = false) := by
  rcases H.1.2 with ⟨hv, h0⟩ | ⟨g, cap, cur, hv, hb, hg, hnc, _, hcs, ht⟩
  · omega
  · injection hv with hA _ hc
    subst hA hc
    refine ⟨g, rfl, hb, (Array.getElem?_eq_some_iff.1 hg).1, fun j u hu => ?_, fun j => H.1.frozenAt j⟩
    have := H.1.cells (g := g) rfl j u hu
    rw [Addr.add_lit, Nat.zero_add] at this
    exact this
/-- a store into an owned row -/
theorem Own.store {W0 w : World} {e : TypeId} {size n c g : Nat} {xs : List Value} (H : Own W0 w e size (.slice (some ⟨g, 0, none⟩) n c) n xs) (hg : W0.heap.size ≤ g) (j : Nat) (u : Value) :
    Own W0 (w.setCell ⟨g, j, none⟩ u) e size (.slice (some ⟨g, 0, none⟩) n c) n (xs.set j u) :=
  ⟨(H.1.stored j u).1, H.2.setCell hg u⟩

/-- 'T{..}', a slice literal, is owned -/
theorem Own.lit {W0 w : World} (hB : Below W0.heap.size W0 w) {cs : Array Value} {e : TypeId} {sz n : Nat} (hs : cs.size = n * sz) (hn : n ≤ 1000000000) : Own W0 (w.alloc (.cells cs e)) e sz (.slice (some ⟨w.heap.size, 0, none⟩) n n) n cs.toList :=
  ⟨World.ownsRow_lit w cs n hB.size (by unfold maxLen; omega) hs, hB.alloc hB.size _⟩
end Go.Proofs.YtennhjkhjplmoaaDoor
