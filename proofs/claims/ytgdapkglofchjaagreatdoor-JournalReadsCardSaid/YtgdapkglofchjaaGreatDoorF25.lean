/- Joined: JnBl JnBs CrcP EntP JnBt JnGr JnRd JnDa. -/
import Derived.Laws.BitsAllLaws
import Derived.Great.BuildSlice
import Derived.Test.YtgdapkglofchjaaGreatDoorF24
set_option maxRecDepth 100000
set_option maxHeartbeats 600000
set_option linter.unusedVariables false
namespace Go.Proofs.YtgdapkglofchjaaGreatDoor
open Go.RowKit
theorem own_nilc' {W0 w : World} {e : TypeId} {sz n c : Nat} {A : Option Addr} {xs : List Value} (H : Own W0 w e sz (.slice A n c) n xs) : A = none → c = 0 := by
 rintro rfl
 rcases H.1.2 with ⟨hv, _⟩ | ⟨g, cap, cur, hv, _⟩
 ·injection hv
 ·injection hv with h; cases h
def OL (C : Cod) (B : Nat) (w : World) (e : TypeId) (v : Value) (l : List FV) : Prop :=
 B ≤ w.heap.size ∧ ∃ cs, w.ownsRow B e C.sz v l.length cs ∧ RList C.rp C.sz w (fun b => B ≤ b ∧ b < w.heap.size ∧ some b ≠ v.ownBlock) l cs
def trunc (w : World) (B : Nat) : World := { w with heap := w.heap.extract 0 B }
theorem trunc_size {w : World} {B : Nat} (h : B ≤ w.heap.size) : (trunc w B).heap.size = B := by
 unfold trunc
 simp only [Array.size_extract]
 omega
theorem trunc_below {w : World} {B : Nat} (h : B ≤ w.heap.size) : Below B (trunc w B) w := ⟨rfl, rfl, rfl, by rw [trunc_size h]; exact h, fun k hk => by
 unfold trunc
 simp only [Array.getElem?_extract]
 rw [if_pos (by omega), Nat.zero_add]⟩
def rCB (C : Cod) (B : Nat) : Rd FV := fun w S f cs => C.rp w (fun b => B ≤ b ∧ S b) f cs
theorem rCB_ok {C : Cod} (hC : C.Ok) (B : Nat) : RdOk (rCB C B) := fun w w' S S' x cs hk hS h => hC.map _ _ _ _ _ _ (fun p hp => hk p hp.2) (fun b hb => ⟨hb.1, hS b hb.2⟩) h
section
variable {C : Cod} {B g : Nat} {w w' wb : World} {e : TypeId} {v : Value} {l : List FV}
theorem rl_cb {S : Nat → Prop} : ∀ {l : List FV} {cs : List Value}, RList (rCB C B) C.sz w S l cs ↔ RList C.rp C.sz w (fun b => B ≤ b ∧ S b) l cs
 | [], _ => Iff.rfl
 | x :: l, cs => by
  constructor
  ·rintro ⟨c1, c2, h1, h2, h3, h4⟩
   exact ⟨c1, c2, h1, h2, h3, rl_cb.1 h4⟩
  ·rintro ⟨c1, c2, h1, h2, h3, h4⟩
   exact ⟨c1, c2, h1, h2, h3, rl_cb.2 h4⟩
theorem OL.to (h : OL C B w e v l) : OwnR (rCB C B) C.sz (trunc w B) w e v l := by
 obtain ⟨hB, cs, h1, h2⟩ := h
 exact ⟨cs, ⟨by rw [trunc_size hB]; exact h1, by rw [trunc_size hB]; exact trunc_below hB⟩, rl_cb.2 h2⟩
theorem OL.of {W0 : World} (h0 : W0.heap.size = B) (h : OwnR (rCB C B) C.sz W0 w e v l) : OL C B w e v l := by
 obtain ⟨cs, h1, h2⟩ := h
 refine ⟨by rw [← h0]; exact h1.2.size, cs, by rw [← h0]; exact h1.1, rl_cb.1 h2⟩
theorem OL.nil (h : B ≤ w.heap.size) : OL C B w e (.slice none 0 0) [] := ⟨h, [], World.ownsRow_nil _ _ _ _, rfl⟩
theorem OL.form (h : OL C B w e v l) : ∃ A c, v = .slice A l.length c := h.to.form
theorem OL.lo (h : OL C B w e v l) : ∀ k, v.ownBlock = some k → B ≤ k ∧ k < w.heap.size := by
 obtain ⟨hB, cs, h1, _⟩ := h
 exact fun k hk => h1.lt k hk
theorem OL.gb (hC : C.Ok) (h : OL C B w e v l) (hg : g < B) (hb : GB w w' g) : OL C B w' e v l := by
 have hlo := h.lo
 obtain ⟨hB, cs, h1, h2⟩ := h
 refine ⟨Nat.le_trans hB hb.size, cs, h1.kept hb ?_, RList.map (fun x c hc => hC.map _ _ _ _ x c (fun p hp => hb.cell hp.2.1 (by have := hp.1; omega)) (fun b hp => ⟨hp.1, Nat.lt_of_lt_of_le hp.2.1 hb.size, hp.2.2⟩) hc) h2⟩
 cases hv : v.ownBlock with
 | none => exact .inl rfl
 | some k => exact .inr fun e => by injection e with e; have := hlo k hv; omega
theorem OL.below (hC : C.Ok) (h : OL C B w e v l) (hb : Below w.heap.size w w') : OL C B w' e v l := OL.of (trunc_size h.1) (OwnR.below (rCB_ok hC B) h.to hb)
theorem OL.app {P : Program} {ops : Array Oper} {rest : List Oper} {o : Oper} {a : Act} {Q : Exit → Act → World → Prop} (hC : C.Ok) (h : OL C B w e v l) (hb : Below w.heap.size w wb) {x : FV} {cs : Array Value} (hx : C.rp wb (fun b => B ≤ b ∧ b < wb.heap.size ∧ some b ≠ v.ownBlock) x cs.toList) {t : TypeId} {z : Value} {bytes : Nat} (ht : P.underlying t = some (.slice e)) (hi : Info P e z C.sz bytes)
  (hbytes : (l.length + 1) * bytes ≤ 140737488355328)
  (h' : ∀ v' w', OL C B w' e v' (l ++ [x]) → Below B wb w' → wb.heap.size ≤ w'.heap.size → (∀ k, k < wb.heap.size → some k ≠ v.ownBlock → w'.heap[k]? = wb.heap[k]?) → wpList P ops Q rest (a.put o.dst v') w')
  {s y : Operand} {gg : Nat} (hgd : o.guard = none := by rfl) (ho : o.op = .call { callee := .builtin .append, args := #[s, y], argTypes := #[t, t] } := by rfl)
  (hs : a.eval s = v := by rfl) (hy : a.eval y = .slice (some ⟨gg, 0, none⟩) 1 1 := by rfl) (hgs : gg = wb.heap.size := by first | rfl | simp) (hzs : z.cells.size = C.sz := by rfl) (hsz : 0 < C.sz := by decide) (hby : 0 < bytes := by decide)
  (hcs : cs.size = C.sz := by rfl) (h1 : cs.toList.all Value.oneCell' = true := by rfl) :
  wpList P ops Q (o :: rest) a (wb.alloc (.cells cs e)) := by
 have hlo := h.lo
 have h0 := trunc_size h.1
 have hBb : B ≤ wb.heap.size := Nat.le_trans h.1 hb.size
 obtain ⟨ds, H1, H2⟩ := h.to.below (rCB_ok hC B) hb
 have hba := (Below.refl wb.heap.size wb).alloc (Nat.le_refl _) (.cells cs e)
 have hlt : ∀ b, Beh wb v b → Beh (wb.alloc (.cells cs e)) v b := fun b hb => ⟨Nat.lt_of_lt_of_le hb.1 hba.size, hb.2⟩
 refine wp_app1 H1 ht hi hbytes (fun v' w' hO hg => ?_) hgd ho hs hy hgs hzs hsz hby hcs h1
 refine h' v' w' (OL.of h0 (OwnR.grew (rCB_ok hC B) (wa := wb.alloc (.cells cs e)) (by rw [List.length_append]; exact hO) hg (RList.map (fun x c hc => rCB_ok hC B _ _ _ _ x c (fun p hp => hba.cell hp.1) hlt hc) H2) (RList.one (rCB_ok hC B _ _ _ _ x _ (fun p hp => hba.cell hp.1) hlt hx) (by simpa using hcs)))) ?_ (Nat.le_trans hba.size hg.by_.size) ?_
 ·exact (hba.mono hBb).grown hg.by_ (Nat.le_trans hBb hba.size) (fun k hk => (hlo k hk).1)
 ·exact fun k hk hne => (hg.by_.block k (Nat.lt_of_lt_of_le hk hba.size) hne).trans (hba.block k hk)
theorem OL.list (hC : C.Ok) (h : OL C B w e v l) : (Cod.list C).rp w (fun b => B ≤ b ∧ b < w.heap.size) (fL l) [v] := by
 obtain ⟨hB, cs, h1, h2⟩ := h
 have hO : Own (trunc w B) w e C.sz v l.length cs := ⟨by rw [trunc_size hB]; exact h1, by rw [trunc_size hB]; exact trunc_below hB⟩
 obtain ⟨A, c, rfl⟩ := hO.slice_form
 refine ⟨l, A, c, rfl, rfl, rfl, hO.cap_le, ?_, cs, ⟨h1.1, fun hn => ?_⟩, RList.map (fun x c hc => hC.map _ _ _ _ x c (fun _ _ => rfl) (fun b hb => ⟨hb.1, hb.2.1⟩) hc) h2⟩
 ·exact own_nilc' hO
 ·obtain ⟨gg, rfl, hlo, hhi, hcc, _⟩ := hO.head hn
  rw [trunc_size hB] at hlo
  exact ⟨gg, 0, rfl, ⟨hlo, hhi⟩, fun j u hu => by rw [Nat.zero_add]; exact hcc j u hu⟩
end
def BRes (w w' : World) (g : Nat) (b : Bool) (C : Cod) (P : FV → Prop) (f : FV) (cs : List Value) : Prop :=
 ∃ f' b', BK w' g b' ∧ GB w w' g ∧ C.rp w' (Fresh w w') f' cs ∧ (b' = false → b = false ∧ P f ∧ f' = f) ∧ (b = false → P f → b' = false)
def Back1 (N : Nat) (F : FuncId) (C : Cod) (P : FV → Prop) : Prop := ∀ (w : World) (g : Nat) (b : Bool) (f : FV) (A : Option Addr) (c : Nat), BK w g b → rF w (NG w g) f (fC f A c) → Cl1 f → fsz f ≤ N →
 Calls Tryz.prog F #[.pointer (some ⟨g, 0, none⟩), .agg (fC f A c).toArray] w fun e w' => ∃ v, e = .returned v ∧ BRes w w' g b C P f [v]
def BackS (N : Nat) (F : FuncId) (C : Cod) (P : FV → Prop) : Prop := ∀ (w : World) (g : Nat) (b : Bool) (f : FV) (A : Option Addr) (c : Nat), BK w g b → rF w (NG w g) f (fC f A c) → Cl1 f → fsz f ≤ N →
 Calls Tryz.prog F #[.pointer (some ⟨g, 0, none⟩), .agg (fC f A c).toArray] w fun e w' => ∃ cs, e = .returned (.agg cs.toArray) ∧ BRes w w' g b C P f cs
theorem num_b : Back1 1000000000 40 Cod.int fitI := by
 intro w g b f A c hb hf hcl hN
 refine (bnum_any w g b f A c hb).mono ?_
 rintro e w' ⟨rfl, h1, h2⟩
 obtain ⟨_, _, _, _, hk, hx, _⟩ := hf
 refine ⟨_, rfl, fI f.2.1, _, h1, h2, ⟨f.2.1, hx, rfl, rfl⟩, fun hb' => ?_, fun hb0 hp => ?_⟩
 ·simp only [Bool.or_eq_false_iff, Bool.not_eq_false', beq_iff_eq] at hb'
  refine ⟨hb'.1, hb'.2, ?_⟩
  rcases hcl with ⟨x, rfl⟩ | ⟨s, rfl⟩ | ⟨m, rfl, _⟩
  ·rfl
  ·exact absurd hb'.2 (by show ¬ (1 : Int) = 0; decide)
  ·exact absurd hb'.2 (by show ¬ (2 : Int) = 0; decide)
 ·unfold fitI at hp
  simp [hb0, hp]
theorem str_b : Back1 1000000000 41 Cod.str fitS := by
 intro w g b f A c hb hf hcl hN
 refine (bstr_any w g b f A c hb).mono ?_
 rintro e w' ⟨rfl, h1, h2⟩
 refine ⟨_, rfl, fS f.2.2.1, _, h1, h2, ⟨f.2.2.1, rfl, rfl⟩, fun hb' => ?_, fun hb0 hp => ?_⟩
 ·simp only [Bool.or_eq_false_iff, Bool.not_eq_false', beq_iff_eq] at hb'
  refine ⟨hb'.1, hb'.2, ?_⟩
  rcases hcl with ⟨x, rfl⟩ | ⟨s, rfl⟩ | ⟨m, rfl, _⟩
  ·exact absurd hb'.2 (by show ¬ (0 : Int) = 1; decide)
  ·rfl
  ·exact absurd hb'.2 (by show ¬ (2 : Int) = 1; decide)
 ·unfold fitS at hp
  simp [hb0, hp]
theorem flag_b : Back1 1000000000 91 Cod.flag fitB := by
 intro w g b f A c hb hf hcl hN
 refine (bflag_any w g b f A c hb).mono ?_
 rintro e w' ⟨rfl, h1, h2⟩
 refine ⟨_, rfl, fI (if f.2.1 == 1 then 1 else 0), _, h1, h2, ⟨f.2.1 == 1, rfl, rfl⟩, fun hb' => ?_, fun hb0 hp => ?_⟩
 ·simp only [Bool.or_eq_false_iff, Bool.not_eq_false', Bool.and_eq_true, Bool.or_eq_true, beq_iff_eq] at hb'
  refine ⟨hb'.1, ⟨hb'.2.1, hb'.2.2⟩, ?_⟩
  rcases hcl with ⟨x, rfl⟩ | ⟨s, rfl⟩ | ⟨m, rfl, _⟩
  ·have h01 : x = 0 ∨ x = 1 := hb'.2.2
   rcases h01 with rfl | rfl <;> rfl
  ·exact absurd hb'.2.1 (by show ¬ (1 : Int) = 0; decide)
  ·exact absurd hb'.2.1 (by show ¬ (2 : Int) = 0; decide)
 ·obtain ⟨h3, h4⟩ := hp
  rcases h4 with h4 | h4 <;> simp [hb0, h3, h4]
theorem fsl_at {w : World} {S : Nat → Prop} {A : Option Addr} {c i : Nat} {l : List FV} {y : FV} (h : FSl w S A c l) (hx : l[i]? = some y) : ∃ bq oq Ay cy, A = some ⟨bq, oq, none⟩ ∧ S bq ∧ rF w S y (fC y Ay cy) ∧ w.rangeAt bq (oq + i * 4) (fC y Ay cy) := by
 obtain ⟨_, cs, h1, h2⟩ := h
 have hi := (List.getElem?_eq_some_iff.1 hx).1
 obtain ⟨bq, oq, rfl, hb, hc⟩ := h1.2 (by omega)
 obtain ⟨c1, _, g2, g3⟩ := h2.at_ hx
 obtain ⟨Ay, cy, rfl⟩ := rF_form g2
 exact ⟨bq, oq, Ay, cy, rfl, hb, g2, fun j u hu => by rw [Nat.add_assoc]; exact hc _ u (g3 j u hu)⟩
theorem BK.low {w w' : World} {g B : Nat} {b : Bool} (h : BK w g b) (hb : Below B w w') (hg : g < B) (hs : w.heap.size ≤ w'.heap.size) : BK w' g b := ⟨Nat.lt_of_lt_of_le h.lt hs, (hb.cell (p := ⟨g, 0, none⟩) hg).trans h.c, fun j => (World.frozen?_of_block (a := ⟨g, j, none⟩) (hb.block g hg)).trans (h.fr j)⟩
theorem GB.low {w w1 w2 : World} {g : Nat} (h : GB w w1 g) (hb : Below w.heap.size w1 w2) (hs : w1.heap.size ≤ w2.heap.size) : GB w w2 g := ⟨hb.os.trans h.os, hb.tape.trans h.tape, hb.output.trans h.output, Nat.le_trans h.size hs, fun k hk hne => (hb.block k hk).trans (h.block k hk hne)⟩
theorem range_gb {w w' : World} {g b o : Nat} {J : List Value} (h : w.rangeAt b o J) (hb : GB w w' g) (h1 : b < w.heap.size) (h2 : b ≠ g) : w'.rangeAt b o J := fun j v hj => (hb.cell (p := ⟨b, o + j, none⟩) h1 h2).trans (h j v hj)
theorem seq_step {P : FV → Prop} {l vs : List FV} {i : Nat} {y y' : FV} {bi b' b2 : Bool} (hx : l[i]? = some y) (h1 : bi = false → b2 = false ∧ (∀ y ∈ l.take i, P y) ∧ vs = l.take i) (h2 : b2 = false → (∀ y ∈ l.take i, P y) → bi = false)
  (k1 : b' = false → bi = false ∧ P y ∧ y' = y) (k2 : bi = false → P y → b' = false) : (b' = false → b2 = false ∧ (∀ y ∈ l.take (i + 1), P y) ∧ vs ++ [y'] = l.take (i + 1)) ∧ (b2 = false → (∀ y ∈ l.take (i + 1), P y) → b' = false) := by
 have e : l.take (i + 1) = l.take i ++ [y] := by rw [List.take_add_one, hx]; rfl
 rw [e]
 refine ⟨fun hb => ?_, fun hb hall => ?_⟩
 ·obtain ⟨k3, k4, rfl⟩ := k1 hb
  obtain ⟨k5, k6, k7⟩ := h1 k3
  refine ⟨k5, fun z hz => ?_, by rw [k7]⟩
  rcases List.mem_append.1 hz with hz | hz
  ·exact k6 z hz
  ·rw [List.mem_singleton.1 hz]; exact k4
 ·exact k2 (h2 hb fun z hz => hall z (List.mem_append_left _ hz)) (hall y (by simp))
theorem list_of {f : FV} (h : Cl1 f) (hk : f.1 = 2) : fL (toL f.2.2.2) = f := by
 rcases h with ⟨x, rfl⟩ | ⟨s, rfl⟩ | ⟨m, rfl, _⟩
 ·exact absurd hk (by show ¬ (0 : Int) = 2; decide)
 ·exact absurd hk (by show ¬ (1 : Int) = 2; decide)
 ·show fL (toL (ofL m)) = fL m
  rw [toL_ofL]
theorem list_res {w w' : World} {g : Nat} {b bi : Bool} {C : Cod} {P : FV → Prop} {f : FV} {vs : List FV} {v : Value} {e : TypeId} (hC : C.Ok) (hcl : Cl1 f) (hB : BK w' g bi) (hG : GB w w' g) (hO : OL C w.heap.size w' e v vs)
  (h1 : bi = false → (b || !(f.1 == 2)) = false ∧ (∀ y ∈ (toL f.2.2.2), P y) ∧ vs = toL f.2.2.2) (h2 : (b || !(f.1 == 2)) = false → (∀ y ∈ (toL f.2.2.2), P y) → bi = false) : BRes w w' g b (.list C) (fitL P) f [v] := by
 refine ⟨fL vs, bi, hB, hG, hO.list hC, fun hb => ?_, fun hb hp => ?_⟩
 ·obtain ⟨k1, k2, rfl⟩ := h1 hb
  simp only [Bool.or_eq_false_iff, Bool.not_eq_false', beq_iff_eq] at k1
  exact ⟨k1.1, ⟨k1.2, k2⟩, list_of hcl k1.2⟩
 ·exact h2 (by rw [hb, hp.1]; rfl) hp.2
theorem fld_sz : (Tryz.prog.info? 98).map (·.size) = some 4 := by kernel_rfl
theorem str_info1 : Info Tryz.prog 9 (.string ⟨#[]⟩) 1 16 := by unfold Info; kernel_rfl
theorem int_info1 : Info Tryz.prog 3 (.int .i64 0) 1 8 := by unfold Info; kernel_rfl
theorem strs_b : Back1 1000000000 95 (.list .str) (fitL fitS) := by
 intro w g b f A c h hf hcl hN
 have hps := parts_of hf
 have hln : f.2.2.2.length ≤ 1000000000 := by have := Flds.length_le_size f.2.2.2; unfold fsz at hN; omega
 go_enter Tryz.func95, Tryz.ntmps95
 go_upto_region 2 with (fail)
 generalize hx_ : World.alloc w _ = w1
 have hO : OwnB w w1 [(w.heap.size, fC f A c)] := by rw [← hx_]; exact (OwnB.refl w).new (fC f A c).toArray _ (g := w.heap.size)
 have hb := hO.below
 clear hx_
 have c0 := hO.c 0 0
 have c1 := hO.c 0 1
 have c2 := hO.c 0 2
 have c3 := hO.c 0 3
 have h1 := h.below hb
 repeat' (first | go_skip | go_guarded | go_step)
 refine (bseq_any w1 g b f A c h1).mono ?_
 rintro e w2 ⟨rfl, h2, hg2⟩
 dsimp only
 have hgb := (GB.of hb).trans hg2
 obtain ⟨n, hn⟩ : ∃ n, n = f.2.2.2.length := ⟨_, rfl⟩
 rw [← hn] at hln ⊢
 have hll : (toL f.2.2.2).length = n := by rw [toL_length, hn]
 replace hn := Lib.hid hn
 clear c0 c1 c2 c3 hg2
 repeat' (first | go_skip | go_guarded | go_step)
 go_loopw [5, 7] (fun u5 u7 wr => ∃ (i : Nat) (vs : List FV) (bi : Bool), i ≤ n ∧ u7 = .int .i64 (i : Int) ∧ vs.length = i ∧ BK wr g bi ∧ GB w wr g ∧ OL .str w.heap.size wr 9 u5 vs ∧ (bi = false → (b || !(f.1 == 2)) = false ∧ (∀ y ∈ (toL f.2.2.2).take i, fitS y) ∧ vs = (toL f.2.2.2).take i) ∧ ((b || !(f.1 == 2)) = false → (∀ y ∈ (toL f.2.2.2).take i, fitS y) → bi = false)) (fun _ u7 _ => n - (intOf u7).toNat)
 case atStart => exact ⟨0, [], _, by omega, rfl, rfl, h2, hgb, OL.nil hgb.size, fun hb => ⟨hb, by simp, by simp⟩, fun hb _ => hb⟩
 case round =>
  obtain ⟨i, vs, bi, hin, rfl, hvl, hB, hG, hOL, q1, q2⟩ := hrel
  replace q1 := Lib.hid q1
  replace q2 := Lib.hid q2
  obtain ⟨A5, c5, rfl⟩ := hOL.form
  have hgl := h.lt
  by_cases hlt : i < n
  ·have hd : (decide ((i : Int) < n)) = true := by simp; omega
   obtain ⟨y, hx⟩ : ∃ y, (toL f.2.2.2)[i]? = some y := ⟨(toL f.2.2.2)[i]'(by omega), List.getElem?_eq_getElem _⟩
   obtain ⟨bq, oq, Ay, cy, rfl, hS, hry, hra⟩ := fsl_at (fsl_gb hps hG) hx
   have hym : y ∈ toL f.2.2.2 := List.mem_iff_getElem?.2 ⟨i, hx⟩
   have hyz := fsz_toL hym
   have hyc := cln_mem (cl1_list hcl) y hym
   have hbyt : (vs.length + 1) * 16 ≤ 140737488355328 := by omega
   replace hx := Lib.hid hx
   replace hll := Lib.hid hll
   rw [hvl] at hOL ⊢
   repeat' (first | (refine wpList_load_mid rfl 98 _ rfl bq (oq + i * 4) rfl (fC y Ay cy) _ hra Tryz.underlying98 rfl fld_sz ?_) | go_skip | go_guarded | go_step)
   refine (str_b wr g bi y Ay cy hB hry hyc (by omega)).mono ?_
   rintro e w3 ⟨v, rfl, y', b', hB', hG', hrp, k1, k2⟩
   dsimp only
   obtain ⟨s, rfl, hv⟩ := hrp
   injection hv with hv
   subst hv
   have hOL3 := hOL.gb Cod.str_ok hgl hG'
   replace k1 := Lib.hid k1
   replace k2 := Lib.hid k2
   repeat' ((fail_if_success at_builtin); first | go_skip | go_guarded | go_step)
   refine OL.app Cod.str_ok hOL3 (Below.refl _ _) ⟨s, rfl, rfl⟩ Tryz.underlying30 str_info1 (by omega) ?_
   intro v9 w9 hOL9 hbw9 hs9 _
   have hl9 : (vs ++ [fS s]).length = i + 1 := by rw [List.length_append, hvl]; rfl
   obtain ⟨A9, c9, rfl⟩ := hOL9.form
   rw [hl9] at hOL9 ⊢
   repeat' (first | go_skip | go_guarded | go_step)
   go_roundw
   case rel =>
    obtain ⟨m1, m2⟩ := seq_step hx.out q1.out q2.out k1.out k2.out
    exact ⟨i + 1, vs ++ [fS s], b', by omega, by go_num, hl9, hB'.low hbw9 hgl hs9, GB.low (hG.trans hG') hbw9 hs9, hOL9, m1, m2⟩
   case measure => simp [intOf]; omega
  ·have hd : (decide ((i : Int) < n)) = false := by simp; omega
   have hti : (toL f.2.2.2).take i = toL f.2.2.2 := List.take_of_length_le (by omega)
   repeat' (first | go_skip | go_guarded | go_step)
   go_ret
   have q1 := q1.out
   have q2 := q2.out
   rw [hti] at q1 q2
   exact ⟨_, rfl, list_res Cod.str_ok hcl hB hG hOL q1 q2⟩
theorem ints_b : Back1 1000000000 96 (.list .int) (fitL fitI) := by
 intro w g b f A c h hf hcl hN
 have hps := parts_of hf
 have hln : f.2.2.2.length ≤ 1000000000 := by have := Flds.length_le_size f.2.2.2; unfold fsz at hN; omega
 go_enter Tryz.func96, Tryz.ntmps96
 go_upto_region 2 with (fail)
 generalize hx_ : World.alloc w _ = w1
 have hO : OwnB w w1 [(w.heap.size, fC f A c)] := by rw [← hx_]; exact (OwnB.refl w).new (fC f A c).toArray _ (g := w.heap.size)
 have hb := hO.below
 clear hx_
 have c0 := hO.c 0 0
 have c1 := hO.c 0 1
 have c2 := hO.c 0 2
 have c3 := hO.c 0 3
 have h1 := h.below hb
 repeat' (first | go_skip | go_guarded | go_step)
 refine (bseq_any w1 g b f A c h1).mono ?_
 rintro e w2 ⟨rfl, h2, hg2⟩
 dsimp only
 have hgb := (GB.of hb).trans hg2
 obtain ⟨n, hn⟩ : ∃ n, n = f.2.2.2.length := ⟨_, rfl⟩
 rw [← hn] at hln ⊢
 have hll : (toL f.2.2.2).length = n := by rw [toL_length, hn]
 replace hn := Lib.hid hn
 clear c0 c1 c2 c3 hg2
 repeat' (first | go_skip | go_guarded | go_step)
 go_loopw [5, 7] (fun u5 u7 wr => ∃ (i : Nat) (vs : List FV) (bi : Bool), i ≤ n ∧ u7 = .int .i64 (i : Int) ∧ vs.length = i ∧ BK wr g bi ∧ GB w wr g ∧ OL .int w.heap.size wr 3 u5 vs ∧ (bi = false → (b || !(f.1 == 2)) = false ∧ (∀ y ∈ (toL f.2.2.2).take i, fitI y) ∧ vs = (toL f.2.2.2).take i) ∧ ((b || !(f.1 == 2)) = false → (∀ y ∈ (toL f.2.2.2).take i, fitI y) → bi = false)) (fun _ u7 _ => n - (intOf u7).toNat)
 case atStart => exact ⟨0, [], _, by omega, rfl, rfl, h2, hgb, OL.nil hgb.size, fun hb => ⟨hb, by simp, by simp⟩, fun hb _ => hb⟩
 case round =>
  obtain ⟨i, vs, bi, hin, rfl, hvl, hB, hG, hOL, q1, q2⟩ := hrel
  replace q1 := Lib.hid q1
  replace q2 := Lib.hid q2
  obtain ⟨A5, c5, rfl⟩ := hOL.form
  have hgl := h.lt
  by_cases hlt : i < n
  ·have hd : (decide ((i : Int) < n)) = true := by simp; omega
   obtain ⟨y, hx⟩ : ∃ y, (toL f.2.2.2)[i]? = some y := ⟨(toL f.2.2.2)[i]'(by omega), List.getElem?_eq_getElem _⟩
   obtain ⟨bq, oq, Ay, cy, rfl, hS, hry, hra⟩ := fsl_at (fsl_gb hps hG) hx
   have hym : y ∈ toL f.2.2.2 := List.mem_iff_getElem?.2 ⟨i, hx⟩
   have hyz := fsz_toL hym
   have hyc := cln_mem (cl1_list hcl) y hym
   have hbyt : (vs.length + 1) * 8 ≤ 140737488355328 := by omega
   replace hx := Lib.hid hx
   replace hll := Lib.hid hll
   rw [hvl] at hOL ⊢
   repeat' (first | (refine wpList_load_mid rfl 98 _ rfl bq (oq + i * 4) rfl (fC y Ay cy) _ hra Tryz.underlying98 rfl fld_sz ?_) | go_skip | go_guarded | go_step)
   refine (num_b wr g bi y Ay cy hB hry hyc (by omega)).mono ?_
   rintro e w3 ⟨v, rfl, y', b', hB', hG', hrp, k1, k2⟩
   dsimp only
   obtain ⟨x, hxi, rfl, hv⟩ := hrp
   injection hv with hv
   subst hv
   have hOL3 := hOL.gb Cod.int_ok hgl hG'
   replace k1 := Lib.hid k1
   replace k2 := Lib.hid k2
   repeat' ((fail_if_success at_builtin); first | go_skip | go_guarded | go_step)
   refine OL.app Cod.int_ok hOL3 (Below.refl _ _) ⟨x, hxi, rfl, rfl⟩ Tryz.underlying31 int_info1 (by omega) ?_
   intro v9 w9 hOL9 hbw9 hs9 _
   have hl9 : (vs ++ [fI x]).length = i + 1 := by rw [List.length_append, hvl]; rfl
   obtain ⟨A9, c9, rfl⟩ := hOL9.form
   rw [hl9] at hOL9 ⊢
   repeat' (first | go_skip | go_guarded | go_step)
   go_roundw
   case rel =>
    obtain ⟨m1, m2⟩ := seq_step hx.out q1.out q2.out k1.out k2.out
    exact ⟨i + 1, vs ++ [fI x], b', by omega, by go_num, hl9, hB'.low hbw9 hgl hs9, GB.low (hG.trans hG') hbw9 hs9, hOL9, m1, m2⟩
   case measure => simp [intOf]; omega
  ·have hd : (decide ((i : Int) < n)) = false := by simp; omega
   have hti : (toL f.2.2.2).take i = toL f.2.2.2 := List.take_of_length_le (by omega)
   repeat' (first | go_skip | go_guarded | go_step)
   go_ret
   have q1 := q1.out
   have q2 := q2.out
   rw [hti] at q1 q2
   exact ⟨_, rfl, list_res Cod.int_ok hcl hB hG hOL q1 q2⟩
end Go.Proofs.YtgdapkglofchjaaGreatDoor
namespace Go.Proofs.YtgdapkglofchjaaGreatDoor
def bitS (n : Nat) : Nat := if n % 2 = 1 then (n / 2) ^^^ 3988292384 else n / 2
def bits8 : Nat → Nat → Nat
 | 0, n => n
 | k + 1, n => bits8 k (bitS n)
def crcB (n c : Nat) : Nat := bits8 8 (n ^^^ c)
def crcF : Nat → List UInt8 → Nat
 | n, [] => n
 | n, c :: r => crcF (crcB n c.toNat) r
def crc (l : List UInt8) : Nat := 4294967295 - crcF 4294967295 l
def sum4 (n : Nat) : List UInt8 := [(n % 256).toUInt8, (n / 256 % 256).toUInt8, (n / 65536 % 256).toUInt8, (n / 16777216 % 256).toUInt8]
theorem sum4_length (n : Nat) : (sum4 n).length = 4 := rfl
end Go.Proofs.YtgdapkglofchjaaGreatDoor
namespace Go.Proofs.YtgdapkglofchjaaGreatDoor
open Go.RowKit
def entry (x : List UInt8) : List UInt8 := if x = [] then [] else Lib.uvarint x.length ++ (x ++ sum4 (crc x))
def ent (fs : List FV) : List UInt8 := entry (encF fs)
def flat (L : List (List FV)) : List UInt8 := L.flatMap ent
theorem flat_nil : flat [] = [] := rfl
theorem flat_cons (fs : List FV) (L : List (List FV)) : flat (fs :: L) = ent fs ++ flat L := rfl
theorem entry_of {x : List UInt8} (h : x ≠ []) : entry x = Lib.uvarint x.length ++ (x ++ sum4 (crc x)) := by unfold entry; rw [if_neg h]
theorem ent_nil {fs : List FV} (h : encF fs = []) : ent fs = [] := by unfold ent entry; rw [if_pos h]
theorem entry_pos {x : List UInt8} (h : x ≠ []) : (entry x).length = (Lib.uvarint x.length).length + x.length + 4 := by
 rw [entry_of h]
 simp only [List.length_append, sum4_length]
 omega
structure F2 (w w' : World) (g b : Nat) : Prop where
 os : w'.os = w.os
 tape : w'.tape = w.tape
 output : w'.output = w.output
 size : w.heap.size ≤ w'.heap.size
 block : ∀ k, k < w.heap.size → k ≠ g → k ≠ b → w'.heap[k]? = w.heap[k]?
theorem F2.refl (w : World) (g b : Nat) : F2 w w g b := ⟨rfl, rfl, rfl, Nat.le_refl _, fun _ _ _ _ => rfl⟩
theorem F2.gb {w w1 w2 : World} {g b : Nat} (h : F2 w w1 g b) (k : GB w1 w2 g) : F2 w w2 g b := ⟨k.os.trans h.os, k.tape.trans h.tape, k.output.trans h.output, Nat.le_trans h.size k.size, fun i hi h1 h2 => (k.block i (Nat.lt_of_lt_of_le hi h.size) (fun e => h1 (by injection e))).trans (h.block i hi h1 h2)⟩
theorem F2.drew {w w1 : World} {g b : Nat} (h : F2 w w1 g b) : F2 w w1.drew g b := ⟨h.os, h.tape, h.output, h.size, h.block⟩
theorem F2.below {w w1 w2 : World} {g b : Nat} (h : F2 w w1 g b) (k : Below w1.heap.size w1 w2) : F2 w w2 g b := h.gb (GB.of k)
theorem setCells_blk : ∀ (vs : List Value) (o : Nat) (w : World) (g : Nat), w.grownBy (w.setCells g o vs) (some g)
 | [], _, w, g => World.grownBy.refl _ _
 | v :: vs, o, w, g => (setCell_grown w g o v).trans (setCells_blk vs (o + 1) _ g)
theorem F2.set {w w1 : World} {g b : Nat} (h : F2 w w1 g b) (o : Nat) (vs : List Value) : F2 w (w1.setCells b o vs) g b := by
 have k := setCells_blk vs o w1 b
 exact ⟨k.os.trans h.os, k.tape.trans h.tape, k.output.trans h.output, Nat.le_trans h.size k.size, fun i hi h1 h2 => (k.block i (Nat.lt_of_lt_of_le hi h.size) (fun e => h2 (by injection e))).trans (h.block i hi h1 h2)⟩
theorem F2.range {w w' : World} {g b q o : Nat} {J : List Value} (h : w.rangeAt q o J) (hF : F2 w w' g b) (h1 : q < w.heap.size) (h2 : q ≠ g) (h3 : q ≠ b) : w'.rangeAt q o J := fun j v hj => (World.cell?_of_block (a := ⟨q, o + j, none⟩) (hF.block q h1 h2 h3)).trans (h j v hj)
theorem F2.rF {w w' : World} {g b : Nat} {f : FV} {cs : List Value} (h : Go.Proofs.YtgdapkglofchjaaGreatDoor.rF w (fun x => x < w.heap.size ∧ x ≠ g ∧ x ≠ b) f cs) (hF : F2 w w' g b) : Go.Proofs.YtgdapkglofchjaaGreatDoor.rF w' (NG w' g) f cs := rF_ok _ _ _ _ _ _ (fun p hp => World.cell?_of_block (hF.block p.block hp.1 hp.2.1 hp.2.2)) (fun x hx => ⟨Nat.lt_of_lt_of_le hx.1 hF.size, hx.2.1⟩) h
structure PS (w1 z : World) (g : Nat) (b2 : Bool) (Cs : List Cod) (Ps : List (FV → Prop)) (ps fs : List FV) (cs : List Value) (bi : Bool) : Prop where
 bk : BK z g bi
 ty : RecL Cs z (Fresh w1 z) fs cs
 h1 : bi = false → b2 = false ∧ FitL Ps ps ∧ fs = ps
 h2 : b2 = false → FitL Ps ps → bi = false
 sz : w1.heap.size ≤ z.heap.size
theorem PS.nil {w1 z : World} {g : Nat} {b2 : Bool} (h : BK z g b2) (hs : w1.heap.size ≤ z.heap.size) : PS w1 z g b2 [] [] [] [] [] b2 := ⟨h, ⟨rfl, rfl⟩, fun hb => ⟨hb, trivial, rfl⟩, fun hb _ => hb, hs⟩
theorem PS.step {w1 z z' : World} {g : Nat} {b2 bi b' : Bool} {Cs : List Cod} {Ps : List (FV → Prop)} {ps fs : List FV} {cs c : List Value} {C : Cod} {P : FV → Prop} {p y : FV} (h : PS w1 z g b2 Cs Ps ps fs cs bi) (hCs : ∀ D ∈ Cs, Cod.Ok D) (hC : C.Ok) (hg : g < w1.heap.size)
  (hB : BK z' g b') (hG : GB z z' g) (hrp : C.rp z' (Fresh z z') y c) (k1 : b' = false → bi = false ∧ P p ∧ y = p) (k2 : bi = false → P p → b' = false) : PS w1 z' g b2 (Cs ++ [C]) (Ps ++ [P]) (ps ++ [p]) (fs ++ [y]) (cs ++ c) b' := by
 refine ⟨hB, RecL.snoc ?_ ?_, fun hb => ?_, fun hb hf => ?_, Nat.le_trans h.sz hG.size⟩
 ·exact hC.map _ _ _ _ _ _ (fun _ _ => rfl) (fun b hb => ⟨Nat.le_trans h.sz hb.1, hb.2⟩) hrp
 ·exact h.ty.map hCs (fun p hp => hG.cell hp.2 (by have := hp.1; omega)) (fun b hb => ⟨hb.1, Nat.lt_of_lt_of_le hb.2 hG.size⟩)
 ·obtain ⟨k3, k4, rfl⟩ := k1 hb
  obtain ⟨k5, k6, rfl⟩ := h.h1 k3
  exact ⟨k5, k6.snoc k4, rfl⟩
 ·obtain ⟨a, x, e, k6, k7⟩ := hf.last
  obtain ⟨rfl, e2⟩ := List.append_inj' e rfl
  injection e2 with e2
  subst e2
  exact k2 (h.h2 hb k6) k7
theorem fsl_k {w : World} {S : Nat → Prop} {bq oq c i : Nat} {l : List FV} {y : FV} (h : FSl w S (some ⟨bq, oq, none⟩) c l) (hx : l[i]? = some y) : ∃ Ay cy, rF w S y (fC y Ay cy) ∧ w.rangeAt bq (oq + i * 4) (fC y Ay cy) := by
 obtain ⟨b', o', Ay, cy, he, _, h1, h2⟩ := fsl_at h hx
 injection he with he
 injection he with e1 e2
 subst e1 e2
 exact ⟨Ay, cy, h1, h2⟩
theorem fsl_head {w : World} {S : Nat → Prop} {A : Option Addr} {c : Nat} {l : List FV} (h : FSl w S A c l) (hn : 0 < l.length) : ∃ bq oq, A = some ⟨bq, oq, none⟩ ∧ S bq := by
 obtain ⟨bq, oq, Ay, cy, he, hS, _⟩ := fsl_at h (i := 0) (y := l[0]) (List.getElem?_eq_getElem hn)
 exact ⟨bq, oq, he, hS⟩
theorem Tgt.f2 {w w' : World} {g b o : Nat} {cs : List Value} (h : Tgt w b o cs) (hb : GB w w' g) (hne : b ≠ g) : Tgt w' b o cs := ⟨Nat.lt_of_lt_of_le h.lt hb.size, fun j u hj => (hb.cell (p := ⟨b, o + j, none⟩) h.lt hne).trans (h.at_ j u hj), fun j => (World.frozen?_of_block (a := ⟨b, j, none⟩) (hb.block b h.lt (fun e => hne (by injection e)))).trans (h.fr j)⟩
theorem str_res {w w1 w2 z zf : World} {g gB : Nat} {b b2 bn : Bool} {Cs : List Cod} {Ps : List (FV → Prop)} {f : FV} {l fs : List FV} {cs : List Value} {many : Nat} (hCs : ∀ D ∈ Cs, Cod.Ok D) (hlen : Ps.length = many) (hcl : Cl1 f)
  (hb1 : Below w.heap.size w w1) (hgw : g < w.heap.size) (hgB : w.heap.size ≤ gB) (hgB1 : gB < w1.heap.size) (hPG : GB w1 w2 g) (q1 : b2 = false → b = false ∧ f.1 = 2 ∧ l = toL f.2.2.2) (q2 : b = false → f.1 = 2 → f.2.2.2.length = many → b2 = false)
  (hS : PS w1 z g b2 Cs Ps l fs cs bn) (hF : F2 w2 zf g gB) (hz : zf = z.setCells gB 0 cs) : BRes w zf g b (.recd Cs) (fitR Ps) f cs := by
 have hGw : GB w w2 g := (GB.of hb1).trans hPG
 have hk := setCells_blk cs 0 z gB
 have hgne : gB ≠ g := by omega
 subst hz
 refine ⟨fL fs, bn, ?_, ?_, ⟨fs, rfl, ?_⟩, fun hb => ?_, fun hb hf => ?_⟩
 ·exact ⟨Nat.lt_of_lt_of_le hS.bk.lt hk.size, (World.cell?_of_block (a := ⟨g, 0, none⟩) (hk.block g hS.bk.lt (fun e => hgne (by injection e with e; exact e.symm)))).trans hS.bk.c, fun j => (World.frozen?_of_block (a := ⟨g, j, none⟩) (hk.block g hS.bk.lt (fun e => hgne (by injection e with e; exact e.symm)))).trans (hS.bk.fr j)⟩
 ·exact ⟨hF.os.trans hGw.os, hF.tape.trans hGw.tape, hF.output.trans hGw.output, Nat.le_trans hGw.size hF.size, fun i hi hne => (hF.block i (Nat.lt_of_lt_of_le hi hGw.size) (fun e => hne (by rw [e])) (by omega)).trans (hGw.block i hi hne)⟩
 ·refine hS.ty.map hCs (fun p hp => World.cell?_setCells_out gB cs 0 z p (fun h => ?_)) (fun x hx => ⟨Nat.le_trans hb1.size hx.1, Nat.lt_of_lt_of_le hx.2 hk.size⟩)
  have := hp.1
  omega
 ·obtain ⟨k1, k2, rfl⟩ := hS.h1 hb
  obtain ⟨k3, k4, rfl⟩ := q1 k1
  exact ⟨k3, ⟨k4, k2⟩, list_of hcl k4⟩
 ·have hl := hf.2.len
  rw [toL_length, hlen] at hl
  have hb2 := q2 hb hf.1 hl
  obtain ⟨_, _, rfl⟩ := q1 hb2
  exact hS.h2 hb2 hf.2
structure HD (w w1 : World) (g : Nat) (b : Bool) (f : FV) (A : Option Addr) (c : Nat) (Z : List Value) : Prop where
 hb : Below w.heap.size w w1
 rg : w1.rangeAt w.heap.size 0 (fC f A c)
 tg : Tgt w1 (w.heap.size + 1) 0 Z
 rf : rF w1 (fun x => x < w.heap.size ∧ x ≠ g) f (fC f A c)
 bk : BK w1 g b
 lt : g < w.heap.size
theorem HD.of {w : World} {g : Nat} {b : Bool} {f : FV} {A : Option Addr} {c : Nat} {Z : List Value} (h : BK w g b) (hf : rF w (NG w g) f (fC f A c)) (t t' : TypeId) : HD w ((w.alloc (.cells (fC f A c).toArray t)).alloc (.cells Z.toArray t')) g b f A c Z := by
 have hO : OwnB w ((w.alloc (.cells (fC f A c).toArray t)).alloc (.cells Z.toArray t')) [(w.heap.size + 1, Z), (w.heap.size, fC f A c)] := ((OwnB.refl w).new (fC f A c).toArray t (g := w.heap.size)).new Z.toArray t' (g := w.heap.size + 1)
 have hb := hO.below
 exact ⟨hb, fun j u hj => by rw [Nat.zero_add]; exact (hO.all 1 _ _ rfl).2.cell j u hj, ⟨hO.lt 0, fun j u hj => by rw [Nat.zero_add]; exact (hO.all 0 _ _ rfl).2.cell j u hj, hO.fr 0⟩,
  rF_ok _ _ _ _ _ _ (fun p (hp : NG w g p.block) => hb.cell hp.1) (fun x (hx : NG w g x) => hx) hf, h.below hb, h.lt⟩
section
variable {w w1 w2 z : World} {g gB : Nat} {b : Bool} {f : FV} {A : Option Addr} {c : Nat} {Z : List Value}
theorem HD.cells (h : HD w w1 g b f A c Z) : w1.cell? ⟨w.heap.size, 0, none⟩ = some (.int .i64 f.1) ∧ w1.cell? ⟨w.heap.size, 1, none⟩ = some (.int .i64 f.2.1) ∧ w1.cell? ⟨w.heap.size, 2, none⟩ = some (.string f.2.2.1) ∧ w1.cell? ⟨w.heap.size, 3, none⟩ = some (.slice A f.2.2.2.length c) :=
 ⟨h.rg 0 _ rfl, h.rg 1 _ rfl, h.rg 2 _ rfl, h.rg 3 _ rfl⟩
theorem HD.ne (h : HD w w1 g b f A c Z) : ∀ x, (x < w.heap.size ∨ w1.heap.size ≤ x) → x ≠ g → x ≠ w.heap.size + 1 := fun x h1 _ => by have := h.tg.lt; omega
theorem part_b {lim s bq oq o k i : Nat} {l : List FV} {y : FV} (hne : ∀ x, (x < lim ∨ s ≤ x) → x ≠ g → x ≠ gB) (h : FSl w2 (fun x => (x < lim ∨ s ≤ x) ∧ x < w2.heap.size ∧ x ≠ g) (some ⟨bq, oq, none⟩) k l) (hc : Cln l) (hs : ∀ y ∈ l, fsz y < fsz f ∨ y = fI 0) (hf : fsz f ≤ 1000000000) (hx : l[i]? = some y) (ho : oq + i * 4 = o) :
  ∃ a k, rF w2 (fun x => x < w2.heap.size ∧ x ≠ g ∧ x ≠ gB) y (fC y a k) ∧ w2.rangeAt bq o (fC y a k) ∧ Cl1 y ∧ fsz y ≤ 1000000000 := by
 obtain ⟨a, k, h1, h2⟩ := fsl_k h hx
 have hm : y ∈ l := List.mem_iff_getElem?.2 ⟨i, hx⟩
 subst ho
 exact ⟨a, k, rF_ok _ _ _ _ _ _ (fun _ _ => rfl) (fun x hx => ⟨hx.2.1, hx.2.2, hne x hx.1 hx.2.2⟩) h1, h2, cln_mem hc y hm, by rcases hs y hm with h | h <;> first | omega | (rw [h]; decide)⟩
theorem part_at {lim s bq oq o k i : Nat} {l : List FV} {y : FV} (h : FSl w2 (fun x => (x < lim ∨ s ≤ x) ∧ x < w2.heap.size ∧ x ≠ g) (some ⟨bq, oq, none⟩) k l) (hc : Cln l) (hs : ∀ y ∈ l, fsz y < fsz f ∨ y = fI 0) (hf : fsz f ≤ 1000000000) (hx : l[i]? = some y) (ho : oq + i * 4 = o) :
  ∃ a k, rF w2 (NG w2 g) y (fC y a k) ∧ w2.rangeAt bq o (fC y a k) ∧ Cl1 y ∧ fsz y ≤ 1000000000 := by
 obtain ⟨a, k, h1, h2, h3, h4⟩ := part_b (gB := g) (fun x _ h => h) h hc hs hf hx ho
 exact ⟨a, k, rF_ok _ _ _ _ _ _ (fun _ _ => rfl) (fun x hx => ⟨hx.1, hx.2.1⟩) h1, h2, h3, h4⟩
structure PB (w1 w2 z : World) (g : Nat) (I : World → Prop) (b2 : Bool) (Cs : List Cod) (Ps : List (FV → Prop)) (ps fs : List FV) (cs : List Value) (bi : Bool) : Prop where
 ps : PS w1 z g b2 Cs Ps ps fs cs bi
 ok : ∀ D ∈ Cs, Cod.Ok D
 gb : GB w2 z g
 inv : I z
 up : ∀ z z', I z → GB z z' g → I z'
 g1 : g < w1.heap.size
variable {I : World → Prop} {b2 bi : Bool} {Cs : List Cod} {Ps : List (FV → Prop)} {ps fs : List FV} {cs : List Value} {F : FuncId} {C : Cod} {P : FV → Prop} {p : FV} {a : Option Addr} {k : Nat}
theorem PB.f2 (h : PB w1 w2 z g I b2 Cs Ps ps fs cs bi) : F2 w2 z g gB := (F2.refl _ _ _).gb h.gb
theorem PB.start (hI : I w2) (hup : ∀ z z', I z → GB z z' g → I z') (hB : BK w2 g b2) (hs : w1.heap.size ≤ w2.heap.size) (hg : g < w1.heap.size) : PB w1 w2 w2.drew g I b2 [] [] [] [] [] b2 :=
 have hd : GB w2 w2.drew g := GB.of ((Below.refl w2.heap.size w2).drew)
 ⟨PS.nil ⟨hB.lt, hB.c, hB.fr⟩ hs, okn, hd, hup _ _ hI hd, hup, hg⟩
theorem HD.start (hH : HD w w1 g b f A c Z) (hB : BK w2 g b2) (hG : GB w1 w2 g) : PB w1 w2 w2.drew g (fun z => Tgt z (w.heap.size + 1) 0 Z) b2 [] [] [] [] [] b2 := by
 have hl := hH.lt
 exact PB.start (hH.tg.f2 hG (by omega)) (fun z z' h hG => h.f2 hG (by omega)) hB hG.size (Nat.lt_of_lt_of_le hl hH.hb.size)
theorem PB.step {z' : World} {y : FV} {v : List Value} {b' : Bool} (h : PB w1 w2 z g I b2 Cs Ps ps fs cs bi) (hC : C.Ok) (hB : BK z' g b') (hG : GB z z' g) (r : C.rp z' (Fresh z z') y v) (m : b' = false → bi = false ∧ P p ∧ y = p) (n : bi = false → P p → b' = false) : PB w1 w2 z' g I b2 (Cs ++ [C]) (Ps ++ [P]) (ps ++ [p]) (fs ++ [y]) (cs ++ v) b' :=
 ⟨h.ps.step h.ok hC h.g1 hB hG r m n, fun D hD => (List.mem_append.1 hD).elim (h.ok D) (fun hD => by rw [List.mem_singleton.1 hD]; exact hC), h.gb.trans hG, h.up _ _ h.inv hG, h.up, h.g1⟩
theorem Back1.pb (hE : Back1 1000000000 F C P) (hC : C.Ok) (h : PB w1 w2 z g I b2 Cs Ps ps fs cs bi) (hr : rF w2 (fun x => x < w2.heap.size ∧ x ≠ g ∧ x ≠ gB) p (fC p a k)) (hc : Cl1 p) (hz : fsz p ≤ 1000000000) :
  Calls Tryz.prog F #[.pointer (some ⟨g, 0, none⟩), .agg (fC p a k).toArray] z fun e z' => ∃ v y b', e = .returned v ∧ C.rp z' (Fresh z z') y [v] ∧ PB w1 w2 z' g I b2 (Cs ++ [C]) (Ps ++ [P]) (ps ++ [p]) (fs ++ [y]) (cs ++ [v]) b' := by
 refine (hE z g bi p a k h.ps.bk (F2.rF hr h.f2) hc hz).mono ?_
 rintro e z' ⟨v, rfl, y, b', hB, hG, r, m, n⟩
 exact ⟨v, y, b', rfl, r, h.step hC hB hG r m n⟩
theorem BackS.pb (hE : BackS 1000000000 F C P) (hC : C.Ok) (h : PB w1 w2 z g I b2 Cs Ps ps fs cs bi) (hr : rF w2 (fun x => x < w2.heap.size ∧ x ≠ g ∧ x ≠ gB) p (fC p a k)) (hc : Cl1 p) (hz : fsz p ≤ 1000000000) :
  Calls Tryz.prog F #[.pointer (some ⟨g, 0, none⟩), .agg (fC p a k).toArray] z fun e z' => ∃ v y b', e = .returned (.agg v.toArray) ∧ C.rp z' (Fresh z z') y v ∧ PB w1 w2 z' g I b2 (Cs ++ [C]) (Ps ++ [P]) (ps ++ [p]) (fs ++ [y]) (cs ++ v) b' := by
 refine (hE z g bi p a k h.ps.bk (F2.rF hr h.f2) hc hz).mono ?_
 rintro e z' ⟨v, rfl, y, b', hB, hG, r, m, n⟩
 exact ⟨v, y, b', rfl, r, h.step hC hB hG r m n⟩
theorem PB.res {l : List FV} (hP : PB w1 w2 z g I b2 Cs Ps l fs cs bi) (hH : HD w w1 g b f A c Z) (hcl : Cl1 f) (hG : GB w1 w2 g) (q1 : b2 = false → b = false ∧ f.1 = 2 ∧ l = toL f.2.2.2) (q2 : b = false → f.1 = 2 → f.2.2.2.length = Ps.length → b2 = false) :
 BRes w (z.setCells (w.heap.size + 1) 0 cs) g b (.recd Cs) (fitR Ps) f cs := str_res hP.ok rfl hcl hH.hb hH.lt (Nat.le_succ _) hH.tg.lt hG q1 q2 hP.ps (hP.f2.set 0 cs) rfl
structure LG (b2 : Bool) (Ps : List (FV → Prop)) (ps fs : List FV) (bi : Bool) : Prop where
 h1 : bi = false → b2 = false ∧ FitL Ps ps ∧ fs = ps
 h2 : b2 = false → FitL Ps ps → bi = false
theorem LG.nil (b2 : Bool) : LG b2 [] [] [] b2 := ⟨fun hb => ⟨hb, trivial, rfl⟩, fun hb _ => hb⟩
theorem LG.step {b' : Bool} {y : FV} (h : LG b2 Ps ps fs bi) (k1 : b' = false → bi = false ∧ P p ∧ y = p) (k2 : bi = false → P p → b' = false) : LG b2 (Ps ++ [P]) (ps ++ [p]) (fs ++ [y]) b' := by
 refine ⟨fun hb => ?_, fun hb hf => ?_⟩
 ·obtain ⟨k3, k4, rfl⟩ := k1 hb
  obtain ⟨k5, k6, rfl⟩ := h.h1 k3
  exact ⟨k5, k6.snoc k4, rfl⟩
 ·obtain ⟨a, x, e, k6, k7⟩ := hf.last
  obtain ⟨rfl, e2⟩ := List.append_inj' e rfl
  injection e2 with e2
  subst e2
  exact k2 (h.h2 hb k6) k7
theorem Back1.lg (hE : Back1 1000000000 F C P) (h : LG b2 Ps ps fs bi) (hB : BK z g bi) (hr : rF z (NG z g) p (fC p a k)) (hc : Cl1 p) (hz : fsz p ≤ 1000000000) :
  Calls Tryz.prog F #[.pointer (some ⟨g, 0, none⟩), .agg (fC p a k).toArray] z fun e z' => ∃ v y b', e = .returned v ∧ C.rp z' (Fresh z z') y [v] ∧ BK z' g b' ∧ GB z z' g ∧ LG b2 (Ps ++ [P]) (ps ++ [p]) (fs ++ [y]) b' := by
 refine (hE z g bi p a k hB hr hc hz).mono ?_
 rintro e z' ⟨v, rfl, y, b', hB', hG, r, m, n⟩
 exact ⟨v, y, b', rfl, r, hB', hG, h.step m n⟩
end
theorem yieldsF {ops : Array Oper} {S : World → Prop} {op : Oper} {a : Act} {x : Operand} {b o c : Nat} {f : FV} {A : Option Addr} (hS : ∀ w, S w → w.rangeAt b o (fC f A c)) (hw : Region.wanted op (yielded ops a.tmps) = true := by rfl) (ho : op.op = .load 98 x := by rfl) (hx : a.eval x = .pointer (some ⟨b, o, none⟩) := by rfl) : YieldsIf Tryz.prog ops S op (.agg (fC f A c).toArray) a :=
 yieldsIf_load_mid hw 98 x ho b o hx (fC f A c) _ (fun v h => hS v h) Tryz.underlying98 rfl fld_sz
theorem list2 {l : List FV} (h : l.length = 2) : ∃ a0 a1, l = [a0, a1] := by
 match l, h with
 | [a0, a1], _ => exact ⟨a0, a1, rfl⟩
theorem list3 {l : List FV} (h : l.length = 3) : ∃ a0 a1 a2, l = [a0, a1, a2] := by
 match l, h with
 | [a0, a1, a2], _ => exact ⟨a0, a1, a2, rfl⟩
theorem list5 {l : List FV} (h : l.length = 5) : ∃ a0 a1 a2 a3 a4, l = [a0, a1, a2, a3, a4] := by
 match l, h with
 | [a0, a1, a2, a3, a4], _ => exact ⟨a0, a1, a2, a3, a4, rfl⟩
theorem list6 {l : List FV} (h : l.length = 6) : ∃ a0 a1 a2 a3 a4 a5, l = [a0, a1, a2, a3, a4, a5] := by
 match l, h with
 | [a0, a1, a2, a3, a4, a5], _ => exact ⟨a0, a1, a2, a3, a4, a5, rfl⟩
theorem list9 {l : List FV} (h : l.length = 9) : ∃ a0 a1 a2 a3 a4 a5 a6 a7 a8, l = [a0, a1, a2, a3, a4, a5, a6, a7, a8] := by
 match l, h with
 | [a0, a1, a2, a3, a4, a5, a6, a7, a8], _ => exact ⟨a0, a1, a2, a3, a4, a5, a6, a7, a8, rfl⟩
theorem list16 {l : List FV} (h : l.length = 16) : ∃ a0 a1 a2 a3 a4 a5 a6 a7 a8 a9 a10 a11 a12 a13 a14 a15, l = [a0, a1, a2, a3, a4, a5, a6, a7, a8, a9, a10, a11, a12, a13, a14, a15] := by
 match l, h with
 | [a0, a1, a2, a3, a4, a5, a6, a7, a8, a9, a10, a11, a12, a13, a14, a15], _ => exact ⟨a0, a1, a2, a3, a4, a5, a6, a7, a8, a9, a10, a11, a12, a13, a14, a15, rfl⟩
def rEv : Rd (List FV) := fun w S fs cs => RecL evC w S fs cs ∧ lsz fs ≤ 9000000
abbrev EvS (w : World) (A : Option Addr) (n c : Nat) (L : List (List FV)) : Prop := RSlice rEv 42 w (fun b => b < w.heap.size) A n c L
theorem EvS.ev {w : World} {A : Option Addr} {n c i : Nat} {L : List (List FV)} {fs : List FV} (h : EvS w A n c L) (hx : L[i]? = some fs) : ∃ b o E, A = some ⟨b, o, none⟩ ∧ b < w.heap.size ∧ EvR w fs E ∧ lsz fs ≤ 9000000 ∧ w.rangeAt b (o + i * 42) E := by
 obtain ⟨b, o, E, h1, h2, _, h4, h5⟩ := h.at_ hx
 exact ⟨b, o, E, h1, h2, ⟨h4.1, by have := h4.2; omega⟩, h4.2, fun j v hj => h5 j v hj⟩
theorem ent_len {fs : List FV} (h : (encF fs).length ≤ 11 * lsz fs + 10) (hz : lsz fs ≤ 9000000) : (ent fs).length ≤ 35 * lsz fs := by
 have h1 := lsz_length fs
 by_cases hn : encF fs = []
 ·rw [ent_nil hn]; simp
 ·unfold ent
  rw [entry_pos hn]
  have := Lib.uvarint_length64 (x := (encF fs).length) (by omega)
  omega
theorem flat_len : ∀ {L : List (List FV)}, (∀ fs ∈ L, (ent fs).length ≤ 35 * lsz fs) → (flat L).length ≤ 35 * (L.map lsz).sum
 | [], _ => by simp [flat_nil]
 | fs :: L, h => by
  have h1 := h fs (by simp)
  have h2 := flat_len (L := L) (fun g hg => h g (by simp [hg]))
  rw [flat_cons, List.length_append, List.map_cons, List.sum_cons]
  omega
theorem EvS.flat {w : World} {A : Option Addr} {n c : Nat} {L : List (List FV)} (h : EvS w A n c L) : ∀ fs ∈ L, (ent fs).length ≤ 35 * lsz fs := by
 intro fs hf
 obtain ⟨i, hi⟩ := List.mem_iff_getElem?.1 hf
 obtain ⟨b, o, E, _, _, hE, hz, _⟩ := h.ev hi
 exact ent_len (encF_len hE) hz
theorem take_sum (L : List (List FV)) (i : Nat) : ((L.take i).map lsz).sum ≤ (L.map lsz).sum := by
 conv => rhs; rw [← List.take_append_drop i L, List.map_append, List.sum_append]
 omega
theorem EvS.take {w : World} {A : Option Addr} {n c : Nat} {L : List (List FV)} (h : EvS w A n c L) (i : Nat) : (Go.Proofs.YtgdapkglofchjaaGreatDoor.flat (L.take i)).length ≤ 35 * (L.map lsz).sum := by
 have h1 := flat_len (L := L.take i) (fun fs hf => h.flat fs (List.mem_of_mem_take hf))
 have h2 := take_sum L i
 omega
def rEvR : Rd (List FV) := fun w S fs cs => RecL evC w S fs cs ∧ lsz fs ≤ 1000000000
abbrev EvQ (w : World) (A : Option Addr) (n c : Nat) (L : List (List FV)) : Prop := RSlice rEvR 42 w (fun b => b < w.heap.size) A n c L
theorem EvQ.ev {w : World} {A : Option Addr} {n c i : Nat} {L : List (List FV)} {fs : List FV} (h : EvQ w A n c L) (hx : L[i]? = some fs) : ∃ b o E, A = some ⟨b, o, none⟩ ∧ b < w.heap.size ∧ EvR w fs E ∧ w.rangeAt b (o + i * 42) E := by
 obtain ⟨b, o, E, h1, h2, _, h4, h5⟩ := h.at_ hx
 exact ⟨b, o, E, h1, h2, ⟨h4.1, h4.2⟩, fun j v hj => h5 j v hj⟩
theorem step_store_mid {P : Program} {ops : Array Oper} {o : Oper} {a : Act} {K : Act → World → Prop} {Q : Exit → Act → World → Prop} {E : Prop} {w : World} (ty : TypeId) (x y : Operand) (ho : o.op = .store ty x y) (hgd : o.guard = none)
  (b off : Nat) (cells : Array Value) (hx : a.eval x = .pointer (some ⟨b, off, none⟩)) (hy : a.eval y = .agg cells)
  (ht : w.there b off cells.size) (hi : (P.info? ty).map (·.size) = some cells.size) (h1 : cells.all (·.oneCell') = true)
  (h : K (a.put o.dst undef) (w.setCells b off cells.toList)) : if Region.wanted o (yielded ops a.tmps) = true then Oper.wp P o a w K Q else E := by
 rw [if_pos (by simp [Region.wanted, hgd])]
 exact wp_store_mid ty x y ho b off cells hx hy ht hi h1 h
end Go.Proofs.YtgdapkglofchjaaGreatDoor
