/- Environments in memory. Deploy: equality of references and of deployments. -/
import Derived.Test.YtennhjkhjplmoaaDoorRow2
import Derived.Test.YtennhjkhjplmoaaDoorDpP
import Derived.Lib.SliceRun
import Derived.Deep.DeepCutAuto
namespace Go.Proofs.YtennhjkhjplmoaaDoor
open Go.RowKit
abbrev envT : TypeId := 61
abbrev refT : TypeId := 29
abbrev depT : TypeId := 40
abbrev refC (x : Ref) : List Value := [.string x.run, .string x.job]
abbrev depC (x : Dep) : List Value := [.string x.ref.run, .string x.ref.job, .int .u64 x.ver, .int .i64 x.at_, .int .i64 x.st]
def rRef : Rd Ref := fun _ _ x cs => cs = refC x
def rDep : Rd Dep := fun _ _ x cs => cs = depC x
theorem rRef_ok : RdOk rRef := fun _ _ _ _ _ _ _ _ h => h
theorem rDep_ok : RdOk rDep := fun _ _ _ _ _ _ _ _ h => h
theorem rRef_one : RdOne rRef := by
  rintro w S x cs rfl u hu
  simp at hu
  rcases hu with rfl | rfl <;> rfl
theorem rDep_one : RdOne rDep := by
  rintro w S x cs rfl u hu
  simp at hu
  rcases hu with rfl | rfl | rfl | rfl | rfl <;> rfl
abbrev envC (x : Env) (A1 : Option Addr) (c1 : Nat) (A2 : Option Addr) (c2 : Nat) : List Value := [.string x.name, .string x.holder.run, .string x.holder.job, .slice A1 x.waiting.length c1, .slice A2 x.history.length c2]
def rEnv : Rd Env := fun w S x cs => ∃ A1 c1 A2 c2, cs = envC x A1 c1 A2 c2 ∧ RSlice rRef 2 w S A1 x.waiting.length c1 x.waiting ∧ RSlice rDep 5 w S A2 x.history.length c2 x.history
theorem RSlice.map_ {α : Type} {r : Rd α} (hr : RdOk r) {sz : Nat} {w w' : World} {S S' : Nat → Prop} {A : Option Addr} {n c : Nat} {l : List α} (hk : ∀ p : Addr, S p.block → w'.cell? p = w.cell? p) (hS : ∀ b, S b → S' b) (h : RSlice r sz w S A n c l) : RSlice r sz w' S' A n c l := by
  obtain ⟨h1, h2, h3, cs, h4, h5⟩ := h
  exact ⟨h1, h2, h3, cs, h4.map hk hS, RList.map (fun x c hc => hr _ _ _ _ x c hk hS hc) h5⟩
theorem rEnv_ok : RdOk rEnv := by
  rintro w w' S S' x cs hk hS ⟨A1, c1, A2, c2, rfl, h1, h2⟩
  exact ⟨A1, c1, A2, c2, rfl, h1.map_ rRef_ok hk hS, h2.map_ rDep_ok hk hS⟩
theorem rEnv_one : RdOne rEnv := by
  rintro w S x cs ⟨A1, c1, A2, c2, rfl, _, _⟩ u hu
  simp at hu
  rcases hu with rfl | rfl | rfl | rfl | rfl <;> rfl
theorem rEnv_len {w : World} {S : Nat → Prop} {x : Env} {cs : List Value} (h : rEnv w S x cs) : cs.length = 5 := by
  obtain ⟨_, _, _, _, rfl, _⟩ := h
  rfl
theorem ref_info : Info Tryd.prog refT (.agg #[.string ⟨#[]⟩, .string ⟨#[]⟩]) 2 32 := by unfold Info; kernel_rfl
theorem dep_info : Info Tryd.prog depT (.agg #[.string ⟨#[]⟩, .string ⟨#[]⟩, .int .u64 0, .int .i64 0, .int .i64 0]) 5 56 := by unfold Info; kernel_rfl
theorem env_info : Info Tryd.prog envT (.agg #[.string ⟨#[]⟩, .string ⟨#[]⟩, .string ⟨#[]⟩, .slice none 0 0, .slice none 0 0]) 5 96 := by unfold Info; kernel_rfl
/-- a reference at a place -/
theorem ref_at {w : World} {S : Nat → Prop} {A : Option Addr} {n c i : Nat} {l : List Ref} {x : Ref} (h : RSlice rRef 2 w S A n c l) (hx : l[i]? = some x) : ∃ b o, A = some ⟨b, o, none⟩ ∧ S b ∧ w.cell? ⟨b, o + i * 2, none⟩ = some (.string x.run) ∧ w.cell? ⟨b, o + i * 2 + 1, none⟩ = some (.string x.job) := by
  obtain ⟨b, o, cs, hA, hb, _, rfl, hc⟩ := h.at_ hx
  exact ⟨b, o, hA, hb, hc 0 _ rfl, hc 1 _ rfl⟩
structure DepAt (w : World) (b o : Nat) (x : Dep) : Prop where
  e0 : w.cell? ⟨b, o, none⟩ = some (.string x.ref.run)
  e1 : w.cell? ⟨b, o + 1, none⟩ = some (.string x.ref.job)
  e2 : w.cell? ⟨b, o + 2, none⟩ = some (.int .u64 x.ver)
  e3 : w.cell? ⟨b, o + 3, none⟩ = some (.int .i64 x.at_)
  e4 : w.cell? ⟨b, o + 4, none⟩ = some (.int .i64 x.st)
theorem dep_at {w : World} {S : Nat → Prop} {A : Option Addr} {n c i : Nat} {l : List Dep} {x : Dep} (h : RSlice rDep 5 w S A n c l) (hx : l[i]? = some x) : ∃ b o, A = some ⟨b, o, none⟩ ∧ S b ∧ DepAt w b (o + i * 5) x := by
  obtain ⟨b, o, cs, hA, hb, _, rfl, hc⟩ := h.at_ hx
  exact ⟨b, o, hA, hb, hc 0 _ rfl, hc 1 _ rfl, hc 2 _ rfl, hc 3 _ rfl, hc 4 _ rfl⟩
structure EnvAt (w : World) (S : Nat → Prop) (b o : Nat) (x : Env) (A1 : Option Addr) (c1 : Nat) (A2 : Option Addr) (c2 : Nat) : Prop where
  e0 : w.cell? ⟨b, o, none⟩ = some (.string x.name)
  e1 : w.cell? ⟨b, o + 1, none⟩ = some (.string x.holder.run)
  e2 : w.cell? ⟨b, o + 2, none⟩ = some (.string x.holder.job)
  e3 : w.cell? ⟨b, o + 3, none⟩ = some (.slice A1 x.waiting.length c1)
  e4 : w.cell? ⟨b, o + 4, none⟩ = some (.slice A2 x.history.length c2)
  wait : RSlice rRef 2 w S A1 x.waiting.length c1 x.waiting
  hist : RSlice rDep 5 w S A2 x.history.length c2 x.history
theorem env_at {w : World} {S : Nat → Prop} {A : Option Addr} {n c i : Nat} {l : List Env} {x : Env} (h : RSlice rEnv 5 w S A n c l) (hx : l[i]? = some x) : ∃ b o A1 c1 A2 c2, A = some ⟨b, o, none⟩ ∧ S b ∧ EnvAt w S b (o + i * 5) x A1 c1 A2 c2 := by
  obtain ⟨b, o, cs, hA, hb, _, ⟨A1, c1, A2, c2, rfl, h1, h2⟩, hc⟩ := h.at_ hx
  exact ⟨b, o, A1, c1, A2, c2, hA, hb, hc 0 _ rfl, hc 1 _ rfl, hc 2 _ rfl, hc 3 _ rfl, hc 4 _ rfl, h1, h2⟩
theorem EnvAt.below {w w' : World} {B b o : Nat} {x : Env} {A1 : Option Addr} {c1 : Nat} {A2 : Option Addr} {c2 : Nat} (h : EnvAt w (fun b => b < B) b o x A1 c1 A2 c2) (hb : b < B) (hw : Below B w w') : EnvAt w' (fun b => b < B) b o x A1 c1 A2 c2 :=
  ⟨(hw.cell (p := ⟨b, o, none⟩) hb).trans h.e0, (hw.cell (p := ⟨b, o + 1, none⟩) hb).trans h.e1, (hw.cell (p := ⟨b, o + 2, none⟩) hb).trans h.e2, (hw.cell (p := ⟨b, o + 3, none⟩) hb).trans h.e3, (hw.cell (p := ⟨b, o + 4, none⟩) hb).trans h.e4, h.wait.below rRef_ok hw, h.hist.below rDep_ok hw⟩
theorem DepAt.below {w w' : World} {B b o : Nat} {x : Dep} (h : DepAt w b o x) (hb : b < B) (hw : Below B w w') : DepAt w' b o x :=
  ⟨(hw.cell (p := ⟨b, o, none⟩) hb).trans h.e0, (hw.cell (p := ⟨b, o + 1, none⟩) hb).trans h.e1, (hw.cell (p := ⟨b, o + 2, none⟩) hb).trans h.e2, (hw.cell (p := ⟨b, o + 3, none⟩) hb).trans h.e3, (hw.cell (p := ⟨b, o + 4, none⟩) hb).trans h.e4⟩
/-- sizes -/
structure EnvW (x : Env) : Prop where
  name : x.name.size ≤ 1000000
  wait : x.waiting.length ≤ 1000000
  hist : x.history.length ≤ 1000000
/-- the list of environments that an argument is -/
structure Envs (w : World) (A : Option Addr) (n c : Nat) (l : List Env) : Prop where
  rd : RSlice rEnv 5 w (fun b => b < w.heap.size) A n c l
  len : l.length ≤ 1000000
  each : ∀ x ∈ l, EnvW x
theorem Envs.below {w w' : World} {A : Option Addr} {n c : Nat} {l : List Env} (h : Envs w A n c l) (hb : Below w.heap.size w w') : Envs w' A n c l :=
  ⟨(h.rd.below rEnv_ok hb).more rEnv_ok (fun _ hp => Nat.lt_of_lt_of_le hp hb.size), h.len, h.each⟩
theorem Envs.n {w : World} {A : Option Addr} {n c : Nat} {l : List Env} (h : Envs w A n c l) : l.length = n := h.rd.1
end Go.Proofs.YtennhjkhjplmoaaDoor
namespace Go.Proofs.YtennhjkhjplmoaaDoor
open Go.RowKit
/-- the fields of a struct whose fields are single cells, as pairs of type and offset -/
def FieldsAre (P : Program) (t : TypeId) (l : List (TypeId × Nat)) : Prop := P.underlying t = some (.struct (P.fieldsOf t)) ∧ P.stoodInHeld t = false ∧ (P.fieldsOf t).toList.map (fun f => (f.name == "_", f.type, f.offset)) = l.map fun x => (false, x.1, x.2)
def eqParts (P : Program) (w : World) (d : Nat) (xs ys : Array Value) : List (TypeId × Nat) → List Bool → Prop
  | [], [] => True
  | (t, o) :: l, r :: rs => (∃ a b, (part t xs o).run P w = .ok a w ∧ (part t ys o).run P w = .ok b w ∧ (Op.equalIn d t a b).run P w = .ok r w) ∧ eqParts P w d xs ys l rs
  | _, _ => False
theorem eqF_list {P : Program} {d : Nat} {xs ys : Array Value} {w : World} : ∀ {fs : List Field} {l : List (TypeId × Nat)} {rs : List Bool}, fs.map (fun f => (f.name == "_", f.type, f.offset)) = l.map (fun x => (false, x.1, x.2)) → eqParts P w d xs ys l rs → (Op.eqFields d xs ys fs).run P w = .ok (rs.all id) w
  | [], [], [], _, _ => by simp [Op.eqFields]
  | f :: fs, (t, o) :: l, r :: rs, hm, ⟨⟨a, b, hx, hy, hr⟩, h⟩ => by
    simp only [List.map_cons, List.cons.injEq, Prod.mk.injEq] at hm
    obtain ⟨⟨h1, rfl, rfl⟩, h2⟩ := hm
    have hn2 : f.name ≠ "_" := by
      intro e; rw [e] at h1; cases h1
    have ih := eqF_list h2 h
    rw [Op.eqFields, if_pos hn2]
    simp only [Sem.run_bind, hx, hy, hr, Result.andThen_ok]
    cases r
    · simp
    · simp only [Bool.not_true, Bool.false_eq_true, if_false, ih]
      simp
theorem eq_struct {P : Program} {t : TypeId} {l : List (TypeId × Nat)} (hf : FieldsAre P t l) {d : Nat} {xs ys : Array Value} {w : World} {rs : List Bool} (h : eqParts P w d xs ys l rs) : (Op.equalIn (d + 1) t (.agg xs) (.agg ys)).run P w = .ok (rs.all id) w := by
  rw [run_equalIn_struct w d t xs ys hf.1 hf.2.1]
  exact eqF_list hf.2.2 h
theorem refF : FieldsAre Tryd.prog refT [(9, 0), (9, 1)] := ⟨by kernel_rfl, by kernel_rfl, by kernel_rfl⟩
theorem depF : FieldsAre Tryd.prog depT [(refT, 0), (38, 2), (3, 3), (3, 4)] := ⟨by kernel_rfl, by kernel_rfl, by kernel_rfl⟩
theorem equalR (d : Nat) (a b : Ref) (w : World) : (Op.equalIn (d + 1 + 1) refT (.agg #[.string a.run, .string a.job]) (.agg #[.string b.run, .string b.job])).run Tryd.prog w = .ok (eqR a b) w := by
  rw [eq_struct refF (rs := [eqB a.run b.run, eqB a.job b.job]) ⟨⟨_, _, by go_simp <;> rfl, by go_simp <;> rfl, run_equalIn_string w _ _ _ _ Tryd.underlying9⟩, ⟨_, _, by go_simp <;> rfl, by go_simp <;> rfl, run_equalIn_string w _ _ _ _ Tryd.underlying9⟩, trivial⟩]
  simp [eqR]
theorem run_eqR (a b : Ref) (w : World) : (binOp .eql refT (.agg #[.string a.run, .string a.job]) (.agg #[.string b.run, .string b.job])).run Tryd.prog w = .ok (.bool (eqR a b)) w := by
  rw [run_eql_struct, equalR]; rfl
theorem run_neR (a b : Ref) (w : World) : (binOp .neq refT (.agg #[.string a.run, .string a.job]) (.agg #[.string b.run, .string b.job])).run Tryd.prog w = .ok (.bool (!eqR a b)) w := by
  rw [run_neq_struct, equalR]; rfl
theorem equalD (a b : Dep) (w : World) : (Op.equalIn 10000 depT (.agg #[.string a.ref.run, .string a.ref.job, .int .u64 a.ver, .int .i64 a.at_, .int .i64 a.st]) (.agg #[.string b.ref.run, .string b.ref.job, .int .u64 b.ver, .int .i64 b.at_, .int .i64 b.st])).run Tryd.prog w = .ok (eqD a b) w := by
  rw [eq_struct depF (d := 9999) (rs := [eqR a.ref b.ref, a.ver == b.ver, a.at_ == b.at_, a.st == b.st]) ⟨⟨_, _, by go_simp <;> rfl, by go_simp <;> rfl, equalR 9997 a.ref b.ref w⟩, ⟨_, _, by go_simp <;> rfl, by go_simp <;> rfl, run_equalIn_int w _ _ _ _ _ _ Tryd.underlying38⟩, ⟨_, _, by go_simp <;> rfl, by go_simp <;> rfl, run_equalIn_int w _ _ _ _ _ _ Tryd.underlying3⟩, ⟨_, _, by go_simp <;> rfl, by go_simp <;> rfl, run_equalIn_int w _ _ _ _ _ _ Tryd.underlying3⟩, trivial⟩]
  simp [eqD, Bool.and_assoc]
theorem run_eqD (a b : Dep) (w : World) : (binOp .eql depT (.agg #[.string a.ref.run, .string a.ref.job, .int .u64 a.ver, .int .i64 a.at_, .int .i64 a.st]) (.agg #[.string b.ref.run, .string b.ref.job, .int .u64 b.ver, .int .i64 b.at_, .int .i64 b.st])).run Tryd.prog w = .ok (.bool (eqD a b)) w := by
  rw [run_eql_struct, equalD]; rfl
theorem run_neD (a b : Dep) (w : World) : (binOp .neq depT (.agg #[.string a.ref.run, .string a.ref.job, .int .u64 a.ver, .int .i64 a.at_, .int .i64 a.st]) (.agg #[.string b.ref.run, .string b.ref.job, .int .u64 b.ver, .int .i64 b.at_, .int .i64 b.st])).run Tryd.prog w = .ok (.bool (!eqD a b)) w := by
  rw [run_neq_struct, equalD]; rfl
theorem wpList_eqS {P : Program} {ops : Array Oper} {rest : List Oper} {o : Oper} {a : Act} {w : World} {Q : Exit → Act → World → Prop} (hg : o.guard = none) {x y : Operand} {t u : TypeId} {xs ys : Array Value} {b : Bool} (ho : o.op = .binOp .eql t x y u) (hx : a.eval x = .agg xs) (hy : a.eval y = .agg ys)
    (hr : (Op.equalIn 10000 t (.agg xs) (.agg ys)).run P w = .ok b w) (hm : P.eqGuardType P.depth t = false) (h : wpList P ops Q rest (a.put o.dst (.bool (b))) w) : wpList P ops Q (o :: rest) a w := by
  refine wpList_plain hg fun _ hK => ?_
  unfold Oper.wp execOp
  simp only [ho, Sem.run_bind, hx, hy, run_eqGuard_agg w _ t _ _ xs ys hm, Result.andThen_ok, run_eql_struct, hr]
  exact hK _ _ h
theorem wpList_eqSG {P : Program} {ops : Array Oper} {rest : List Oper} {o : Oper} {a : Act} {w : World} {Q : Exit → Act → World → Prop} (hw : Region.wanted o (yielded ops a.tmps) = true) {x y : Operand} {t u : TypeId} {xs ys : Array Value} {b : Bool} (ho : o.op = .binOp .eql t x y u) (hx : a.eval x = .agg xs) (hy : a.eval y = .agg ys)
    (hr : (Op.equalIn 10000 t (.agg xs) (.agg ys)).run P w = .ok b w) (hm : P.eqGuardType P.depth t = false) (h : wpList P ops Q rest (a.put o.dst (.bool (b))) w) : wpList P ops Q (o :: rest) a w := by
  simp only [wpList, hw, if_true]
  refine .inl ?_
  unfold Oper.wp execOp
  simp only [ho, Sem.run_bind, hx, hy, run_eqGuard_agg w _ t _ _ xs ys hm, Result.andThen_ok, run_eql_struct, hr]
  exact h
theorem wpList_neS {P : Program} {ops : Array Oper} {rest : List Oper} {o : Oper} {a : Act} {w : World} {Q : Exit → Act → World → Prop} (hg : o.guard = none) {x y : Operand} {t u : TypeId} {xs ys : Array Value} {b : Bool} (ho : o.op = .binOp .neq t x y u) (hx : a.eval x = .agg xs) (hy : a.eval y = .agg ys)
    (hr : (Op.equalIn 10000 t (.agg xs) (.agg ys)).run P w = .ok b w) (hm : P.eqGuardType P.depth t = false) (h : wpList P ops Q rest (a.put o.dst (.bool (!b))) w) : wpList P ops Q (o :: rest) a w := by
  refine wpList_plain hg fun _ hK => ?_
  unfold Oper.wp execOp
  simp only [ho, Sem.run_bind, hx, hy, run_eqGuard_agg w _ t _ _ xs ys hm, Result.andThen_ok, run_neq_struct, hr]
  exact hK _ _ h
theorem wpList_neSG {P : Program} {ops : Array Oper} {rest : List Oper} {o : Oper} {a : Act} {w : World} {Q : Exit → Act → World → Prop} (hw : Region.wanted o (yielded ops a.tmps) = true) {x y : Operand} {t u : TypeId} {xs ys : Array Value} {b : Bool} (ho : o.op = .binOp .neq t x y u) (hx : a.eval x = .agg xs) (hy : a.eval y = .agg ys)
    (hr : (Op.equalIn 10000 t (.agg xs) (.agg ys)).run P w = .ok b w) (hm : P.eqGuardType P.depth t = false) (h : wpList P ops Q rest (a.put o.dst (.bool (!b))) w) : wpList P ops Q (o :: rest) a w := by
  simp only [wpList, hw, if_true]
  refine .inl ?_
  unfold Oper.wp execOp
  simp only [ho, Sem.run_bind, hx, hy, run_eqGuard_agg w _ t _ _ xs ys hm, Result.andThen_ok, run_neq_struct, hr]
  exact h
theorem qE_R (a b : Ref) : ∀ w, (Op.equalIn 10000 refT (.agg #[.string a.run, .string a.job]) (.agg #[.string b.run, .string b.job])).run Tryd.prog w = .ok (eqR a b) w := fun w => equalR 9998 a b w
theorem qE_D (a b : Dep) : ∀ w, (Op.equalIn 10000 depT (.agg #[.string a.ref.run, .string a.ref.job, .int .u64 a.ver, .int .i64 a.at_, .int .i64 a.st]) (.agg #[.string b.ref.run, .string b.ref.job, .int .u64 b.ver, .int .i64 b.at_, .int .i64 b.st])).run Tryd.prog w = .ok (eqD a b) w := fun w => equalD a b w
end Go.Proofs.YtennhjkhjplmoaaDoor
