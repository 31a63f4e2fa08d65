/- Joined: JnZ2 JnL JnL2 JnL3. -/
import Derived.Test.YtgdapkglofchjaaGreatDoorF17
set_option maxRecDepth 100000
set_option maxHeartbeats 1000000
set_option linter.unusedVariables false
namespace Go.Proofs.YtgdapkglofchjaaGreatDoor
open Go.RowKit
theorem ok_snoc {Cs : List Cod} {C : Cod} (h : ∀ D ∈ Cs, Cod.Ok D) (hC : C.Ok) : ∀ D ∈ Cs ++ [C], Cod.Ok D := fun D hD => by
 rcases List.mem_append.1 hD with hD | hD
 ·exact h D hD
 ·simp only [List.mem_cons, List.not_mem_nil, or_false] at hD
  subst hD
  exact hC
theorem origin_rc : ReadC 78 Cod.origin (fitR [fitS, fitS, fitB]) [.string ⟨#[]⟩, .string ⟨#[]⟩, .bool false] := by
 intro W0 w g b o l bad h hb hne hT hc hl
 replace hT : Tgt w b o ([.string ⟨#[]⟩] ++ ([.string ⟨#[]⟩] ++ ([.bool false] ++ ([])))) := hT
 go_enter Tryz.func78, Tryz.ntmps78
 repeat' (first | go_skip | go_guarded | go_step)
 refine (inner_rS h hb hne hT hc hl).mono ?_
 rintro e w1 ⟨gi, m, r0, b0, rfl, hI, hS⟩
 have hb1 : b < w1.heap.size := Nat.lt_of_lt_of_le hI.bl hI.ch.size
 have hbg : b ≠ gi := by have := hI.lo; have := hI.bl; omega
 have hO0 := okn
 dsimp only
 repeat' (first | go_skip | go_guarded | go_step)
 refine (RSt.call (k := o) str_rc hO0 Cod.str_ok hI.lt hI.bW hb1 hbg rfl hI.cm hI.lm hS rfl).mono ?_
 have hO1 := ok_snoc hO0 Cod.str_ok
 rintro e w2 ⟨rfl, hS⟩
 dsimp only
 repeat' (first | go_skip | go_guarded | go_step)
 refine (RSt.call (k := o + 1) str_rc hO1 Cod.str_ok hI.lt hI.bW hb1 hbg rfl hI.cm hI.lm hS rfl).mono ?_
 have hO2 := ok_snoc hO1 Cod.str_ok
 rintro e w3 ⟨rfl, hS⟩
 dsimp only
 repeat' (first | go_skip | go_guarded | go_step)
 refine (RSt.call (k := o + 2) flag_rc hO2 Cod.flag_ok hI.lt hI.bW hb1 hbg rfl hI.cm hI.lm hS rfl).mono ?_
 have hO3 := ok_snoc hO2 Cod.flag_ok
 rintro e w4 ⟨rfl, hS⟩
 dsimp only
 repeat' ((fail_if_success at_builtin); first | go_skip | go_guarded | go_step)
 obtain ⟨li, bi, hout, hin, hfin⟩ := hI.fin hO3 rfl hS
 refine (done_r W0 _ g gi r0 li b0 bi hout hin).mono ?_
 rintro e wf ⟨rfl, hg, hC⟩
 dsimp only
 repeat' ((fail_if_success at_builtin); first | go_skip | go_guarded | go_step)
 go_end0
 exact ⟨rfl, hfin _ hg hC⟩
theorem timing_rc : ReadC 84 Cod.timing (fitR [fitS, fitI]) [.string ⟨#[]⟩, .int .i64 0] := by
 intro W0 w g b o l bad h hb hne hT hc hl
 replace hT : Tgt w b o ([.string ⟨#[]⟩] ++ ([.int .i64 0] ++ ([]))) := hT
 go_enter Tryz.func84, Tryz.ntmps84
 repeat' (first | go_skip | go_guarded | go_step)
 refine (inner_rS h hb hne hT hc hl).mono ?_
 rintro e w1 ⟨gi, m, r0, b0, rfl, hI, hS⟩
 have hb1 : b < w1.heap.size := Nat.lt_of_lt_of_le hI.bl hI.ch.size
 have hbg : b ≠ gi := by have := hI.lo; have := hI.bl; omega
 have hO0 := okn
 dsimp only
 repeat' (first | go_skip | go_guarded | go_step)
 refine (RSt.call (k := o) str_rc hO0 Cod.str_ok hI.lt hI.bW hb1 hbg rfl hI.cm hI.lm hS rfl).mono ?_
 have hO1 := ok_snoc hO0 Cod.str_ok
 rintro e w2 ⟨rfl, hS⟩
 dsimp only
 repeat' (first | go_skip | go_guarded | go_step)
 refine (RSt.call (k := o + 1) int_rc hO1 Cod.int_ok hI.lt hI.bW hb1 hbg rfl hI.cm hI.lm hS rfl).mono ?_
 have hO2 := ok_snoc hO1 Cod.int_ok
 rintro e w3 ⟨rfl, hS⟩
 dsimp only
 repeat' ((fail_if_success at_builtin); first | go_skip | go_guarded | go_step)
 obtain ⟨li, bi, hout, hin, hfin⟩ := hI.fin hO2 rfl hS
 refine (done_r W0 _ g gi r0 li b0 bi hout hin).mono ?_
 rintro e wf ⟨rfl, hg, hC⟩
 dsimp only
 repeat' ((fail_if_success at_builtin); first | go_skip | go_guarded | go_step)
 go_end0
 exact ⟨rfl, hfin _ hg hC⟩
theorem event2_rc : ReadC 83 Cod.timing (fitR [fitS, fitI]) [.string ⟨#[]⟩, .int .i64 0] := by
 intro W0 w g b o l bad h hb hne hT hc hl
 go_enter Tryz.func83, Tryz.ntmps83
 repeat' (first | go_skip | go_guarded | go_step)
 refine (timing_rc W0 w g b o l bad h hb hne hT hc hl).mono ?_
 rintro e w1 ⟨rfl, hF⟩
 dsimp only
 repeat' ((fail_if_success at_builtin); first | go_skip | go_guarded | go_step)
 go_end0
 exact ⟨rfl, hF⟩
theorem output_rc : ReadC 141 Cod.output (fitR [fitS, fitI, fitI]) [.string ⟨#[]⟩, .int .u64 0, .int .i64 0] := by
 intro W0 w g b o l bad h hb hne hT hc hl
 replace hT : Tgt w b o ([.string ⟨#[]⟩] ++ ([.int .u64 0] ++ ([.int .i64 0] ++ ([])))) := hT
 go_enter Tryz.func141, Tryz.ntmps141
 repeat' (first | go_skip | go_guarded | go_step)
 refine (inner_rS h hb hne hT hc hl).mono ?_
 rintro e w1 ⟨gi, m, r0, b0, rfl, hI, hS⟩
 have hb1 : b < w1.heap.size := Nat.lt_of_lt_of_le hI.bl hI.ch.size
 have hbg : b ≠ gi := by have := hI.lo; have := hI.bl; omega
 have hO0 := okn
 dsimp only
 repeat' (first | go_skip | go_guarded | go_step)
 refine (RSt.call (k := o) str_rc hO0 Cod.str_ok hI.lt hI.bW hb1 hbg rfl hI.cm hI.lm hS rfl).mono ?_
 have hO1 := ok_snoc hO0 Cod.str_ok
 rintro e w2 ⟨rfl, hS⟩
 dsimp only
 repeat' (first | go_skip | go_guarded | go_step)
 refine (RSt.call (k := o + 1) dig_rc hO1 Cod.dig_ok hI.lt hI.bW hb1 hbg rfl hI.cm hI.lm hS rfl).mono ?_
 have hO2 := ok_snoc hO1 Cod.dig_ok
 rintro e w3 ⟨rfl, hS⟩
 dsimp only
 repeat' (first | go_skip | go_guarded | go_step)
 refine (RSt.call (k := o + 2) int_rc hO2 Cod.int_ok hI.lt hI.bW hb1 hbg rfl hI.cm hI.lm hS rfl).mono ?_
 have hO3 := ok_snoc hO2 Cod.int_ok
 rintro e w4 ⟨rfl, hS⟩
 dsimp only
 repeat' ((fail_if_success at_builtin); first | go_skip | go_guarded | go_step)
 obtain ⟨li, bi, hout, hin, hfin⟩ := hI.fin hO3 rfl hS
 refine (done_r W0 _ g gi r0 li b0 bi hout hin).mono ?_
 rintro e wf ⟨rfl, hg, hC⟩
 dsimp only
 repeat' ((fail_if_success at_builtin); first | go_skip | go_guarded | go_step)
 go_end0
 exact ⟨rfl, hfin _ hg hC⟩
theorem outputs1_rc : ReadC 140 Cod.output (fitR [fitS, fitI, fitI]) [.string ⟨#[]⟩, .int .u64 0, .int .i64 0] := by
 intro W0 w g b o l bad h hb hne hT hc hl
 go_enter Tryz.func140, Tryz.ntmps140
 repeat' (first | go_skip | go_guarded | go_step)
 refine (output_rc W0 w g b o l bad h hb hne hT hc hl).mono ?_
 rintro e w1 ⟨rfl, hF⟩
 dsimp only
 repeat' ((fail_if_success at_builtin); first | go_skip | go_guarded | go_step)
 go_end0
 exact ⟨rfl, hF⟩
theorem test_rc : ReadC 126 Cod.test (fitR [fitS, fitI, fitI]) [.string ⟨#[]⟩, .int .i64 0, .int .i64 0] := by
 intro W0 w g b o l bad h hb hne hT hc hl
 replace hT : Tgt w b o ([.string ⟨#[]⟩] ++ ([.int .i64 0] ++ ([.int .i64 0] ++ ([])))) := hT
 go_enter Tryz.func126, Tryz.ntmps126
 repeat' (first | go_skip | go_guarded | go_step)
 refine (inner_rS h hb hne hT hc hl).mono ?_
 rintro e w1 ⟨gi, m, r0, b0, rfl, hI, hS⟩
 have hb1 : b < w1.heap.size := Nat.lt_of_lt_of_le hI.bl hI.ch.size
 have hbg : b ≠ gi := by have := hI.lo; have := hI.bl; omega
 have hO0 := okn
 dsimp only
 repeat' (first | go_skip | go_guarded | go_step)
 refine (RSt.call (k := o) str_rc hO0 Cod.str_ok hI.lt hI.bW hb1 hbg rfl hI.cm hI.lm hS rfl).mono ?_
 have hO1 := ok_snoc hO0 Cod.str_ok
 rintro e w2 ⟨rfl, hS⟩
 dsimp only
 repeat' (first | go_skip | go_guarded | go_step)
 refine (RSt.call (k := o + 1) int_rc hO1 Cod.int_ok hI.lt hI.bW hb1 hbg rfl hI.cm hI.lm hS rfl).mono ?_
 have hO2 := ok_snoc hO1 Cod.int_ok
 rintro e w3 ⟨rfl, hS⟩
 dsimp only
 repeat' (first | go_skip | go_guarded | go_step)
 refine (RSt.call (k := o + 2) int_rc hO2 Cod.int_ok hI.lt hI.bW hb1 hbg rfl hI.cm hI.lm hS rfl).mono ?_
 have hO3 := ok_snoc hO2 Cod.int_ok
 rintro e w4 ⟨rfl, hS⟩
 dsimp only
 repeat' ((fail_if_success at_builtin); first | go_skip | go_guarded | go_step)
 obtain ⟨li, bi, hout, hin, hfin⟩ := hI.fin hO3 rfl hS
 refine (done_r W0 _ g gi r0 li b0 bi hout hin).mono ?_
 rintro e wf ⟨rfl, hg, hC⟩
 dsimp only
 repeat' ((fail_if_success at_builtin); first | go_skip | go_guarded | go_step)
 go_end0
 exact ⟨rfl, hfin _ hg hC⟩
theorem result1_rc : ReadC 125 Cod.test (fitR [fitS, fitI, fitI]) [.string ⟨#[]⟩, .int .i64 0, .int .i64 0] := by
 intro W0 w g b o l bad h hb hne hT hc hl
 go_enter Tryz.func125, Tryz.ntmps125
 repeat' (first | go_skip | go_guarded | go_step)
 refine (test_rc W0 w g b o l bad h hb hne hT hc hl).mono ?_
 rintro e w1 ⟨rfl, hF⟩
 dsimp only
 repeat' ((fail_if_success at_builtin); first | go_skip | go_guarded | go_step)
 go_end0
 exact ⟨rfl, hF⟩
def CB (C : Cod) (B : Nat) : Rd FV := fun w S f cs => C.rp w (fun b => B ≤ b ∧ S b) f cs
theorem Own.keepB {W0 w w' : World} {e : TypeId} {sz n : Nat} {v : Value} {xs : List Value} (H : Own W0 w e sz v n xs) (hb : Below W0.heap.size W0 w') (hk : ∀ r, v.ownBlock = some r → w'.heap[r]? = w.heap[r]?) : Own W0 w' e sz v n xs := by
 refine ⟨⟨H.1.1, ?_⟩, hb⟩
 rcases H.1.2 with h | ⟨g, cap, cur, hv, h1, h2, h3⟩
 ·exact Or.inl h
 ·exact Or.inr ⟨g, cap, cur, hv, h1, (hk g (by rw [hv]; rfl)).trans h2, h3⟩
def LSt (W0 w1 wr : World) (gi b o : Nat) (T : TypeId) (C : Cod) (P : FV → Prop) (m : List FV) (A' : Option Addr) (n' c' : Nat) : Prop :=
 Chg w1 wr gi b o (o + 1) ∧ Tgt wr b o [.slice A' n' c'] ∧ n' ≤ m.length ∧ ∃ xs, Own W0 wr T C.sz (.slice A' n' c') n' xs ∧ (∀ r, Value.ownBlock (.slice A' n' c') = some r → w1.heap.size ≤ r ∧ r < wr.heap.size) ∧
  ((∃ a r, m = a ++ r ∧ a.length = n' ∧ (∀ y ∈ a, P y) ∧ CR W0 wr gi r false ∧ RList (CB C w1.heap.size) C.sz wr (Beh wr (.slice A' n' c')) a xs) ∨ (¬ (∀ y ∈ m, P y) ∧ ∃ l', Cln l' ∧ lsz l' ≤ lsz m ∧ CR W0 wr gi l' true))
def mesW (w : World) (gi : Nat) : Nat := match w.cell? ⟨gi, 2, none⟩ with
  | some (.bool true) => 0
  | _ => match w.cell? ⟨gi, 0, none⟩ with
    | some (.slice _ n _) => n + 1
    | _ => 0
section
variable {W0 w1 wr : World} {gi b o : Nat} {T : TypeId} {C : Cod} {P : FV → Prop} {m : List FV}
theorem LSt.start {w2 : World} (hgi : gi < w1.heap.size) (hbg : b ≠ gi) (hT : Tgt w1 b o [.slice none 0 0]) (hC : CR W0 w1 gi m false) (hgW : W0.heap.size ≤ gi) (hbW : W0.heap.size ≤ b)
  (hown : w2.ownsRow w1.heap.size T C.sz (.slice (some ⟨w1.heap.size, 0, none⟩) 0 m.length) 0 []) (hg : w1.grownBy w2 none) :
  LSt W0 w1 (w2.setCell ⟨b, o, none⟩ (.slice (some ⟨w1.heap.size, 0, none⟩) 0 m.length)) gi b o T C P m (some ⟨w1.heap.size, 0, none⟩) 0 m.length := by
 have hb : Below w1.heap.size w1 w2 := (Below.refl _ _).grown hg (Nat.le_refl _) (fun k hk => by cases hk)
 have hT2 := hT.below hb
 have hC2 := hC.below hb
 have hlt2 : w1.heap.size < w2.heap.size := by
  rcases hown.2 with ⟨h, _⟩ | ⟨g, _, _, hv, _, hg2, _⟩
  ·injection h with h; cases h
  ·injection hv with hv; injection hv with hv; injection hv with hv; subst hv
   exact (Array.getElem?_eq_some_iff.1 hg2).1
 refine ⟨(Chg.of_below hb hT.lt).set (Nat.le_refl _) (by omega) _, hT2.set1 _, Nat.zero_le _, [], ?_, ?_, Or.inl ⟨[], m, rfl, rfl, (fun y hy => by cases hy), hC2.setb hbW hbg _, rfl⟩⟩
 ·refine Own.keepB (w := w2) ⟨ownsRow_mono hown hC.bel.size, hC2.bel⟩ (hC2.setb hbW hbg _).bel (fun r hr => Below.heap_setCell w2 ⟨b, o, none⟩ _ r ?_)
  have hr : w1.heap.size = r := by injection hr
  have := hT.lt
  simp only
  omega
 ·intro r hr
  have hr : w1.heap.size = r := by injection hr
  subst hr
  exact ⟨Nat.le_refl _, by simpa [World.setCell] using hlt2⟩
end
section
variable {W0 w1 wr : World} {gi b o : Nat} {T : TypeId} {C : Cod} {P : FV → Prop} {m : List FV}
theorem LSt.next {wa w' w9 : World} {a : List FV} {x : FV} {r : List FV} {xs cs' : List Value} {A' A9 : Option Addr} {n' c' c9 bx : Nat} (hC : C.Ok) (hgi : gi < w1.heap.size) (hb1 : b < w1.heap.size) (hbg : b ≠ gi) (hgW : W0.heap.size ≤ gi) (hbW : W0.heap.size ≤ b)
  (hm : m = a ++ x :: r) (hal : a.length = n') (hP : ∀ y ∈ a, P y) (hL : RList (CB C w1.heap.size) C.sz wr (Beh wr (.slice A' n' c')) a xs)
  (hch : Chg w1 wr gi b o (o + 1)) (hlo : ∀ r, Value.ownBlock (.slice A' n' c') = some r → w1.heap.size ≤ r ∧ r < wr.heap.size)
  (hba : Below wr.heap.size wr wa) (hbx : bx = wr.heap.size) (hbxl : bx < wa.heap.size) (hcx : Chg wa w' gi bx 0 (0 + C.sz)) (hcl : cs'.length = C.sz) (hcm : Cln (x :: r))
  (hh : (∃ f r', x :: r = f :: r' ∧ P f ∧ CR W0 w' gi r' false ∧ C.rp w' (Fresh wa w') f cs') ∨ (¬ (∃ f r', x :: r = f :: r' ∧ P f) ∧ ∃ l', Cln l' ∧ lsz l' ≤ lsz (x :: r) ∧ CR W0 w' gi l' true))
  (hk : ∀ k, k < w'.heap.size → some k ≠ Value.ownBlock (.slice A' n' c') → k ≠ b → w9.heap[k]? = w'.heap[k]?) (h9s : w'.heap.size ≤ w9.heap.size)
  (hos : w9.os = w'.os) (htp : w9.tape = w'.tape) (hou : w9.output = w'.output) (hout : ∀ o', o' ≠ o → w9.cell? ⟨b, o', none⟩ = w'.cell? ⟨b, o', none⟩) (hfr : ∀ o', w9.frozen? ⟨b, o', none⟩ = w'.frozen? ⟨b, o', none⟩)
  (hO9 : Own W0 w9 T C.sz (.slice A9 (n' + 1) c9) (n' + 1) (xs ++ cs')) (hat : Value.ownBlock (.slice A9 (n' + 1) c9) = Value.ownBlock (.slice A' n' c') ∨ ∃ z, Value.ownBlock (.slice A9 (n' + 1) c9) = some z ∧ w'.heap.size ≤ z)
  (hT9 : Tgt w9 b o [.slice A9 (n' + 1) c9]) : LSt W0 w1 w9 gi b o T C P m A9 (n' + 1) c9 := by
 have s1 := hch.size
 have s2 := hba.size
 have s3 := hcx.size
 have hoy : ∀ k, Value.ownBlock (.slice A' n' c') = some k → w1.heap.size ≤ k ∧ k < wr.heap.size := hlo
 have hblt : ∀ k, k < w1.heap.size → some k ≠ Value.ownBlock (.slice A' n' c') := fun k hk' e => by have := (hoy k e.symm).1; omega
 have hgi9 : w9.heap[gi]? = w'.heap[gi]? := hk gi (by omega) (hblt gi hgi) (fun e => hbg e.symm)
 have hbr : w'.heap[b]? = wr.heap[b]? := (hcx.block b (by omega) hbg (by omega)).trans (hba.block b (by omega))
 have hCh9 : Chg w1 w9 gi b o (o + 1) := by
  refine ⟨hos.trans (hcx.os.trans (hba.os.trans hch.os)), htp.trans (hcx.tape.trans (hba.tape.trans hch.tape)), hou.trans (hcx.output.trans (hba.output.trans hch.output)), by omega, fun k hk1 hk2 hk3 => ?_, fun o' ho' => ?_, fun o' => ?_⟩
  ·rw [hk k (by omega) (hblt k hk1) hk3, hcx.block k (by omega) hk2 (by omega), hba.block k (by omega), hch.block k hk1 hk2 hk3]
  ·rw [hout o' (by omega), World.cell?_of_block (a := ⟨b, o', none⟩) hbr, hch.out o' ho']
  ·rw [hfr o', World.frozen?_of_block (a := ⟨b, o', none⟩) hbr, hch.fr o']
 have hown9 : ∀ r, Value.ownBlock (.slice A9 (n' + 1) c9) = some r → w1.heap.size ≤ r ∧ r < w9.heap.size := fun r hr => by
  have hlt := (hO9.1.lt r hr).2
  rcases hat with e | ⟨z, e, hz⟩
  ·rw [e] at hr; exact ⟨(hoy r hr).1, hlt⟩
  ·rw [e] at hr; injection hr with hr; exact ⟨by omega, hlt⟩
 refine ⟨hCh9, hT9, by rw [hm, List.length_append, List.length_cons]; omega, xs ++ cs', hO9, hown9, ?_⟩
 have keepCR : ∀ {l bb}, CR W0 w' gi l bb → CR W0 w9 gi l bb := fun h => h.keep hO9.2 hgi9 h9s
 have hgood : ∀ k, w1.heap.size ≤ k → k < w'.heap.size → some k ≠ Value.ownBlock (.slice A' n' c') → Beh w9 (.slice A9 (n' + 1) c9) k := fun k h1 h2 h3 => ⟨by omega, fun e => by
  rcases hat with e2 | ⟨z, e2, hz⟩
  ·exact h3 (e.trans e2)
  ·rw [e2] at e; injection e with e; omega⟩
 rcases hh with ⟨f, r', he, hPf, hCR, hrp⟩ | ⟨hn, l', hcl', hz', hCR⟩
 ·injection he with he1 he2
  subst he1 he2
  refine Or.inl ⟨a ++ [x], r, by rw [hm]; simp, by simp [hal], fun y hy => ?_, keepCR hCR, ?_⟩
  ·rcases List.mem_append.1 hy with hy | hy
   ·exact hP y hy
   ·simp only [List.mem_cons, List.not_mem_nil, or_false] at hy; subst hy; exact hPf
  ·refine RList.append (r := CB C w1.heap.size) (RList.map (r := CB C w1.heap.size) (fun y c hc => show C.rp w9 (fun k => w1.heap.size ≤ k ∧ Beh w9 (.slice A9 (n' + 1) c9) k) y c from hC.map wr w9 (fun k => w1.heap.size ≤ k ∧ Beh wr (.slice A' n' c') k) _ _ _ (fun p hp => ?_) (fun k hk2 => ⟨hk2.1, hgood k hk2.1 (by have := hk2.2.1; omega) hk2.2.2⟩) hc) hL) (RList.one (r := CB C w1.heap.size) (show C.rp w9 (fun k => w1.heap.size ≤ k ∧ Beh w9 (.slice A9 (n' + 1) c9) k) x cs' from hC.map w' w9 (Fresh wa w') _ _ _ (fun p hp => ?_) (fun k hk2 => ?_) hrp) hcl)
   ·have h1 := hp.1; have h2 := hp.2.1
    rw [World.cell?_of_block (hk p.block (by omega) hp.2.2 (by omega)), World.cell?_of_block (hcx.block p.block (by omega) (by omega) (by omega)), World.cell?_of_block (hba.block p.block h2)]
   ·have h1 := hp.1; have h2 := hp.2
    exact World.cell?_of_block (hk p.block h2 (fun e => by have := (hoy _ e.symm).2; omega) (by omega))
   ·have h1 := hk2.1; have h2 := hk2.2
    exact ⟨by omega, hgood k (by omega) h2 (fun e => by have := (hoy _ e.symm).2; omega)⟩
 ·refine Or.inr ⟨fun hall => hn ⟨x, r, rfl, hall x (by rw [hm]; simp)⟩, l', hcl', ?_, keepCR hCR⟩
  rw [hm]
  exact Nat.le_trans hz' (lsz_app _ _)
end
theorem RSt.zero {W0 w : World} {gi b o : Nat} {bad0 : Bool} {Z : List Value} {m : List FV} (h : RSt W0 w w gi b o bad0 [] [] Z m) : CR W0 w gi m bad0 ∧ Tgt w b o Z := by
 obtain ⟨_, cs, hcl, hT, _, hh⟩ := h
 have : cs = [] := List.eq_nil_of_length_eq_zero hcl
 subst this
 rcases hh with ⟨a, r, rfl, hf, hC, _⟩ | ⟨hn, _⟩
 ·cases a with
  | nil => exact ⟨hC, hT⟩
  | cons => exact hf.elim
 ·exact absurd ⟨[], m, rfl, trivial⟩ hn
theorem CR.c0 {W0 w : World} {g : Nat} {l : List FV} {bad : Bool} (h : CR W0 w g l bad) : ∃ A c, w.cell? ⟨g, 0, none⟩ = some (.slice A l.length c) := by
 obtain ⟨A, c, h, _⟩ := h
 exact ⟨A, c, h.c 0 0⟩
theorem mes_of {W0 w : World} {g : Nat} {l : List FV} (h : CR W0 w g l false) : mesW w g = l.length + 1 := by
 obtain ⟨A, c, h0⟩ := h.c0
 unfold mesW
 rw [h.c2, h0]
theorem mes_bad {W0 w : World} {g : Nat} {l : List FV} (h : CR W0 w g l true) : mesW w g = 0 := by
 unfold mesW
 rw [h.c2]
structure MidL (w' cur : World) (b o : Nat) (vo : Value) : Prop where
 hk : ∀ k, k < w'.heap.size → some k ≠ vo.ownBlock → k ≠ b → cur.heap[k]? = w'.heap[k]?
 hs : w'.heap.size ≤ cur.heap.size
 os : cur.os = w'.os
 tp : cur.tape = w'.tape
 ou : cur.output = w'.output
 out : ∀ o', o' ≠ o → cur.cell? ⟨b, o', none⟩ = w'.cell? ⟨b, o', none⟩
 fr : ∀ o', cur.frozen? ⟨b, o', none⟩ = w'.frozen? ⟨b, o', none⟩
section
variable {w' cur c2 : World} {b o : Nat} {vo v2 : Value}
theorem MidL.of_below (h : Below w'.heap.size w' cur) (hb : b < w'.heap.size) : MidL w' cur b o vo := ⟨fun k hk _ _ => h.block k hk, h.size, h.os, h.tape, h.output, fun o' _ => h.cell (p := ⟨b, o', none⟩) hb, fun o' => h.frozen (p := ⟨b, o', none⟩) hb⟩
theorem MidL.below (h : MidL w' cur b o vo) (k : Below cur.heap.size cur c2) (hb : b < cur.heap.size) : MidL w' c2 b o vo :=
 ⟨fun j hj a c => (k.block j (Nat.lt_of_lt_of_le hj h.hs)).trans (h.hk j hj a c), Nat.le_trans h.hs k.size, k.os.trans h.os, k.tape.trans h.tp, k.output.trans h.ou,
  fun o' ho => (k.cell (p := ⟨b, o', none⟩) hb).trans (h.out o' ho), fun o' => (k.frozen (p := ⟨b, o', none⟩) hb).trans (h.fr o')⟩
theorem MidL.grew (h : MidL w' cur b o vo) (k : Grew cur c2 vo v2) (hb : b < cur.heap.size) (hne : some b ≠ vo.ownBlock) : MidL w' c2 b o vo :=
 ⟨fun j hj a c => (k.by_.block j (Nat.lt_of_lt_of_le hj h.hs) a).trans (h.hk j hj a c), Nat.le_trans h.hs k.by_.size, k.by_.os.trans h.os, k.by_.tape.trans h.tp, k.by_.output.trans h.ou,
  fun o' ho => (k.cell (p := ⟨b, o', none⟩) hb hne).trans (h.out o' ho), fun o' => (k.frozen (p := ⟨b, o', none⟩) hb hne).trans (h.fr o')⟩
theorem MidL.set (h : MidL w' cur b o vo) (v : Value) : MidL w' (cur.setCell ⟨b, o, none⟩ v) b o vo :=
 ⟨fun j hj a c => (Below.heap_setCell cur ⟨b, o, none⟩ v j c).trans (h.hk j hj a c), by simpa [World.setCell] using h.hs, h.os, h.tp, h.ou,
  fun o' ho => (World.cell?_setCell_other cur _ _ _ (by intro e; injection e with _ e; exact ho e.symm)).trans (h.out o' ho), fun o' => (World.frozen?_setCell _ _ _ _).trans (h.fr o')⟩
end
theorem Own.setAt {W0 w : World} {e : TypeId} {sz n b o : Nat} {v : Value} {xs : List Value} (H : Own W0 w e sz v n xs) (hb : W0.heap.size ≤ b) (hne : some b ≠ v.ownBlock) (u : Value) : Own W0 (w.setCell ⟨b, o, none⟩ u) e sz v n xs :=
 H.keepB (H.2.setCell (p := ⟨b, o, none⟩) hb u) (fun r hr => Below.heap_setCell w ⟨b, o, none⟩ u r (fun e => hne (by rw [hr, e])))
theorem Own.chg {W0 w w' : World} {e : TypeId} {sz n g b lo_ hi_ : Nat} {v : Value} {xs : List Value} (H : Own W0 w e sz v n xs) (k : Chg w w' g b lo_ hi_) (hg : W0.heap.size ≤ g) (hb : W0.heap.size ≤ b) (h1 : ∀ r, v.ownBlock = some r → r < w.heap.size ∧ r ≠ g ∧ r ≠ b) : Own W0 w' e sz v n xs :=
 H.keepB (H.2.trans (k.below hg hb H.2.size)) (fun r hr => k.block r (h1 r hr).1 (h1 r hr).2.1 (h1 r hr).2.2)
section
variable {W0 w w1 wr : World} {g gi b o : Nat} {T : TypeId} {C : Cod} {P : FV → Prop} {m l r0 : List FV} {bad b0 : Bool} {A' : Option Addr} {n' c' : Nat}
theorem list_ch (hI : RIn W0 w w1 g gi b o l bad m r0 b0) (hch : Chg w1 wr gi b o (o + 1)) : Chg w wr g b o (o + 1) :=
 Chg.trans ⟨hI.ch.os, hI.ch.tape, hI.ch.output, hI.ch.size, hI.ch.block, fun x hx => hI.ch.out x (by omega), hI.ch.fr⟩ hch (Or.inr hI.lo) (Nat.le_refl _) (Nat.le_refl _)
theorem list_out (hI : RIn W0 w w1 g gi b o l bad m r0 b0) (hch : Chg w1 wr gi b o (o + 1)) : CR W0 wr g r0 b0 := by
 have := hI.lo; have := hI.gl; have := hI.gW
 exact hI.out.chg hch (by omega) (fun e => hI.bg e.symm) (by omega) hI.bW
theorem list_good {w2 : World} {xs : List Value} (hI : RIn W0 w w1 g gi b o l bad m r0 b0) (hC : C.Ok) (hch : Chg w1 wr gi b o (o + 1)) (hT : Tgt wr b o [.slice A' n' c']) (hO : Own W0 wr T C.sz (.slice A' n' c') n' xs)
  (hlo : ∀ r, Value.ownBlock (.slice A' n' c') = some r → w1.heap.size ≤ r ∧ r < wr.heap.size) (hal : m.length = n') (hP : ∀ y ∈ m, P y) (hL : RList (CB C w1.heap.size) C.sz wr (Beh wr (.slice A' n' c')) m xs)
  (hg : wr.grownBy w2 (some g)) (hCR : CR W0 w2 g r0 (b0 || (false || !([] : List FV).isEmpty))) : ReadR W0 w w2 g b o (Cod.list C) (fitL P) l bad := by
 have hs1 := hI.ch.size
 have hgl := hI.gl
 have hbw : b < wr.heap.size := hT.lt
 refine ⟨(list_ch hI hch).trans (Chg.of_grown (lo := o) (hi := o) hg hbw hI.bg) (Or.inl rfl) (Nat.le_refl _) (by omega), _, hT.grown hg hI.bg, rfl, one1 rfl, ?_⟩
 rcases hI.how with ⟨rfl, rfl⟩ | ⟨hn, rfl⟩
 ·subst hal
  refine Or.inl ⟨_, r0, rfl, fitL_mk.2 hP, by simpa using hCR, m, A', c', rfl, rfl, rfl, hO.cap_le, ?_, xs, ⟨hO.1.1, fun h0 => ?_⟩, ?_⟩
  ·intro hA
   rcases hO.1.2 with ⟨hv, _⟩ | ⟨r, _, _, hv, _⟩
   ·injection hv
   ·injection hv with hv; rw [hA] at hv; cases hv
  ·obtain ⟨r, h1, h2, h3, h4, _⟩ := hO.head h0
   subst h1
   have hr := hlo r rfl
   exact ⟨r, 0, rfl, ⟨by omega, Nat.lt_of_lt_of_le h3 hg.size⟩, fun j u hu => by
    rw [Nat.zero_add]
    exact (World.cell?_of_block (a := ⟨r, j, none⟩) (hg.block r h3 (fun e => by injection e with e; omega))).trans (h4 j u hu)⟩
  ·have conv : ∀ {l : List FV} {cs : List Value}, RList (CB C w1.heap.size) C.sz wr (Beh wr (.slice A' m.length c')) l cs → RList C.rp C.sz w2 (Fresh w w2) l cs := by
    intro l
    induction l with
    | nil => exact fun h => h
    | cons x l ih =>
     rintro cs ⟨c1, c2, h1, h2, h3, h4⟩
     exact ⟨c1, c2, h1, h2, hC.map _ _ _ _ _ _ (fun p hp => World.cell?_of_block (hg.block p.block hp.2.1 (fun e => by injection e with e; have := hp.1; omega))) (fun k hk => ⟨by have := hk.1; omega, Nat.lt_of_lt_of_le hk.2.1 hg.size⟩) h3, ih h4⟩
   exact conv hL
 ·refine Or.inr ⟨fun ⟨f, r', h, hf⟩ => hn ⟨f, r', h, hf.1⟩, r0, hI.cl, hI.lz, by simpa using hCR⟩
theorem list_bad {w2 : World} {li : List FV} {bi : Bool} (hI : RIn W0 w w1 g gi b o l bad m r0 b0) (hch : Chg w1 wr gi b o (o + 1)) (hT : Tgt wr b o [.slice A' n' c']) (hno : ¬ (∀ y ∈ m, P y)) (hbi : bi = true)
  (hg : wr.grownBy w2 (some g)) (hCR : CR W0 w2 g r0 (b0 || (bi || !li.isEmpty))) : ReadR W0 w w2 g b o (Cod.list C) (fitL P) l bad := by
 subst hbi
 have hbw : b < wr.heap.size := hT.lt
 refine ⟨(list_ch hI hch).trans (Chg.of_grown (lo := o) (hi := o) hg hbw hI.bg) (Or.inl rfl) (Nat.le_refl _) (by omega), _, hT.grown hg hI.bg, rfl, one1 rfl, Or.inr ⟨?_, r0, hI.cl, hI.lz, by simpa using hCR⟩⟩
 rintro ⟨f, r', h, hf⟩
 rcases hI.how with ⟨rfl, rfl⟩ | ⟨hn, rfl⟩
 ·injection h with h3 h4
  subst h3
  exact hno (fitL_mk.1 hf)
 ·exact hn ⟨f, r', h, hf.1⟩
end
def ReadT (F : FuncId) (C : Cod) (P : FV → Prop) (Z : List Value) (TY : Value → Prop) : Prop := ∀ (W0 w : World) (g b o : Nat) (l : List FV) (bad : Bool), CR W0 w g l bad → W0.heap.size ≤ b → b ≠ g → Tgt w b o Z → Cln l → lsz l ≤ 1000000000 →
 Calls Tryz.prog F #[.pointer (some ⟨g, 0, none⟩), .pointer (some ⟨b, o, none⟩)] w fun e w' => e = .returned (.tuple #[]) ∧ ReadR W0 w w' g b o C P l bad ∧ ∃ u, TY u ∧ Tgt w' b o [u]
theorem int_rt : ReadT 76 Cod.int fitI [.int .i64 0] (fun u => ∃ s : Int, u = .int .i64 s) := by
 intro W0 w g b o l bad h hb hne hT hc hl
 refine (int_r W0 w g b o l bad h hb hne hT hc hl).mono ?_
 rintro e w' ⟨rfl, hch, hh⟩
 rcases hh with ⟨x, r, rfl, hx, hR, hN⟩ | ⟨hn, hR, hN⟩
 ·exact ⟨rfl, ⟨hch, _, hN, rfl, one1 rfl, Or.inl ⟨fI x, r, rfl, rfl, hR, x, hx, rfl, rfl⟩⟩, _, ⟨_, rfl⟩, hN⟩
 ·exact ⟨rfl, ⟨hch, _, hN, rfl, one1 rfl, Or.inr ⟨hn, l, hc, Nat.le_refl _, hR⟩⟩, _, ⟨_, rfl⟩, hN⟩
theorem str_rt : ReadT 77 Cod.str fitS [.string ⟨#[]⟩] (fun u => ∃ s : ByteArray, u = .string s) := by
 intro W0 w g b o l bad h hb hne hT hc hl
 refine (str_r W0 w g b o l bad h hb hne hT hc hl).mono ?_
 rintro e w' ⟨rfl, hch, hh⟩
 rcases hh with ⟨x, r, rfl, hR, hN⟩ | ⟨hn, hR, hN⟩
 ·exact ⟨rfl, ⟨hch, _, hN, rfl, one1 rfl, Or.inl ⟨fS x, r, rfl, rfl, hR, x, rfl, rfl⟩⟩, _, ⟨_, rfl⟩, hN⟩
 ·exact ⟨rfl, ⟨hch, _, hN, rfl, one1 rfl, Or.inr ⟨hn, l, hc, Nat.le_refl _, hR⟩⟩, _, ⟨_, rfl⟩, hN⟩
theorem strs1_rt : ReadT 143 Cod.str fitS [.string ⟨#[]⟩] (fun u => ∃ s : ByteArray, u = .string s) := by
 intro W0 w g b o l bad h hb hne hT hc hl
 go_enter Tryz.func143, Tryz.ntmps143
 repeat' (first | go_skip | go_guarded | go_step)
 refine (str_rt W0 w g b o l bad h hb hne hT hc hl).mono ?_
 rintro e w1 ⟨rfl, hF⟩
 dsimp only
 repeat' ((fail_if_success at_builtin); first | go_skip | go_guarded | go_step)
 go_end0
 exact ⟨rfl, hF⟩
theorem lstr_r_info : Info Tryz.prog 9 (.string ⟨#[]⟩) 1 16 := by unfold Info; kernel_rfl
theorem lstr_r (C : Cod) (hC : C.Ok) (hk : C.sz = 1) (P : FV → Prop) (hcode : ReadT 143 C P [.string ⟨#[]⟩] (fun u => ∃ s : ByteArray, u = .string s)) : ReadL 142 (.func (.func 143) #[] #[]) (Cod.list C) (fitL P) [.slice none 0 0] := by
 intro W0 w g b o l bad h hb hne hT hc hl
 go_enter Tryz.func142, Tryz.ntmps142
 repeat' (first | go_skip | go_guarded | go_step)
 refine (inner_rS h hb hne hT hc hl).mono ?_
 rintro e w1 ⟨gi, m, r0, b0, rfl, hI, hS⟩
 obtain ⟨hCI, hTI⟩ := hS.zero
 clear hS
 have hb1 : b < w1.heap.size := Nat.lt_of_lt_of_le hI.bl hI.ch.size
 have hbg : b ≠ gi := by have := hI.lo; have := hI.bl; omega
 have hgW := hCI.lo
 have hbW := hI.bW
 have hgi := hI.lt
 have hml := lsz_length m
 have hlm := hI.lm
 have hcm := hI.cm
 dsimp only
 have c1 := hI.out.c1
 obtain ⟨Am, cm, m0⟩ := hCI.c0
 obtain ⟨i0, hi0, hz0, hzs, hzb⟩ := info_parts lstr_r_info
 obtain ⟨w2, hmk, hown, hgr⟩ := run_make_own (P := Tryz.prog) w1 w1.heap.size 30 9 i0 _ 1 Tryz.underlying30 hi0 hz0 hzs .i64 .i64 m.length (by rw [hzb]; omega) (by unfold maxLen; omega) (Nat.le_refl _)
 have hb12 : Below w1.heap.size w1 w2 := (Below.refl _ _).grown hgr (Nat.le_refl _) (fun k hk => by cases hk)
 have t0 := (hTI.below hb12).c0
 have tf := (hTI.below hb12).fr
 rw [← hk] at hown
 have hL0 := LSt.start (P := P) hgi hbg hTI hCI hgW hbW hown hgr
 clear hi0 hz0 hzs hzb i0 hown
 repeat' ((fail_if_success at_builtin); first | go_skip | go_guarded | go_step)
 clear hmk t0 tf m0 hgr hb12 c1
 generalize w2.setCell ⟨b, o, none⟩ (.slice (some ⟨w1.heap.size, 0, none⟩) 0 m.length) = w3 at *
 replace hcode := Lib.hid hcode
 go_loopw [] (fun wr => ∃ A' n' c', LSt W0 w1 wr gi b o 9 C P m A' n' c') (fun wr => mesW wr gi)
 case atStart => exact ⟨_, _, _, hL0⟩
 case round =>
  clear hL0 hCI hTI
  obtain ⟨A', n', c', hch, hTb, hnm, xs, hO, hlo, hh⟩ := hrel
  have hout := list_out hI hch
  rcases hh with ⟨a, r, hm, hal, hP, hCR, hRL⟩ | ⟨hno, l', hcl', hz', hCR⟩
  ·skip
   replace hm := Lib.hid hm
   replace hal := Lib.hid hal
   have hCRk := hCR
   obtain ⟨Ar, cr, q0⟩ := hCR.c0
   have q2 := hCR.c2
   cases r with
   | nil =>
    have q0 : wr.cell? ⟨gi, 0, none⟩ = some (.slice Ar 0 cr) := q0
    repeat' (first | go_skip | go_guarded | go_step)
    refine (done_r W0 wr g gi r0 [] b0 false hout hCR).mono ?_
    rintro e wf ⟨rfl, hg, hC2⟩
    dsimp only
    repeat' ((fail_if_success at_builtin); first | go_skip | go_guarded | go_step)
    go_end0
    exact ⟨rfl, list_good hI hC hch hTb hO hlo (by rw [hm.out, List.append_nil]; exact hal.out) (by rw [hm.out, List.append_nil]; exact hP) (by rw [hm.out, List.append_nil]; exact hRL) hg hC2⟩
   | cons x r =>
    have q0 : wr.cell? ⟨gi, 0, none⟩ = some (.slice Ar (r.length + 1) cr) := q0
    have i1 : (0 : Int) < (r.length : Int) + 1 := by omega
    have hmes := mes_of hCRk
    have hln : lsz (x :: r) ≤ 1000000000 := by have h := hlm; rw [hm.out] at h; exact Nat.le_trans (lsz_app _ _) h
    have hcx0 : Cln (x :: r) := by have h := hcm; rw [hm.out] at h; exact cln_app h
    have hWr := hO.2.size
    have hgir := hCRk.lt
    go_upto_region 5 with (fail)
    generalize hx_ : World.alloc wr _ = wa
    have hba : Below wr.heap.size wr wa := by rw [← hx_]; exact (Below.refl _ _).alloc (Nat.le_refl _) _
    have hX : Tgt wa wr.heap.size 0 [.string ⟨#[]⟩] := by rw [← hx_]; exact Tgt.new wr #[.string ⟨#[]⟩] _
    clear hx_ q0 q2
    repeat' (first | go_skip | go_guarded | go_step)
    refine (hcode.out W0 wa gi wr.heap.size 0 (x :: r) false (hCRk.below hba) hWr (by omega) hX hcx0 hln).mono ?_
    rintro e w' ⟨rfl, ⟨hcx, cs', hT', hcl, h12, hh⟩, uu, ⟨s1, rfl⟩, hTu⟩
    dsimp only
    rw [hk] at hcl
    obtain ⟨u1, rfl⟩ := one_list hcl
    obtain rfl : u1 = .string s1 := by have := hT'.c0.symm.trans hTu.c0; injection this
    have hsa := hba.size
    have hsx := hcx.size
    have hbxl := hX.lt
    have hOx := (hO.below hba).chg hcx hgW hWr (fun r hr => by have := hlo r hr; exact ⟨by omega, by omega, by omega⟩)
    have hTx := (hTb.below hba).chg hcx hbg (by have := hTb.lt; omega)
    have hbo : some b ≠ Value.ownBlock (.slice A' n' c') := fun e => by have := (hlo b e.symm).1; omega
    have x0 : w'.cell? ⟨wr.heap.size, 0, none⟩ = some (.string s1) := by have := hT'.at_ 0 _ rfl; rwa [Nat.zero_add] at this
    obtain ⟨bx, hbx⟩ : ∃ bx, bx = wr.heap.size := ⟨_, rfl⟩
    rw [← hbx] at hcx x0
    rw [← hbx]
    have hxlt : bx < w'.heap.size := by omega
    have hxb : bx ≠ b := by have := hTb.lt; omega
    have hxo : some bx ≠ Value.ownBlock (.slice A' n' c') := fun e => by have := (hlo bx e.symm).2; omega
    replace hbx := Lib.hid hbx
    go_upto_region 6 with (fail)
    have hM : MidL w' w'.drew b o (.slice A' n' c') := MidL.of_below (Below.refl _ _).drew hTx.lt
    replace hOx := hOx.below (Below.refl _ _).drew
    replace hTx := hTx.below (Below.refl _ _).drew
    have y0 : w'.drew.cell? ⟨bx, 0, none⟩ = some (.string s1) := x0
    clear x0
    have hxs : bx < w'.drew.heap.size := hxlt
    refine wp_region_held_drew (S := (fun w' => w'.cell? ⟨bx, 0, none⟩ = some (.string s1))) (by kernel_rfl) ?_ (fun hHeld => ?_)
    ·(try dsimp only)
     exact y0
    generalize World.drew w' = vd at *
    refine tkQ 0 ?_
    refine tkQ 1 ?_
    refine tkQ 2 ?_
    refine tkQ 4 ?_
    refine rdN [3, 5] ?_
    refine rdC (fun K hK => ?_) ?_
    ·have t0 := hTx.c0
     go_simp
     clear t0
     refine hkO hK y0 fun hHeld => ?_
     clear hK K
     refine rdN [5] ?_
     refine rdC (fun K hK => ?_) ?_
     ·go_simp
      generalize hx_ : World.alloc vd _ = v2
      have hbq : Below vd.heap.size vd v2 := by rw [← hx_]; exact (Below.refl _ _).alloc (Nat.le_refl _) _
      have hz : CellsAt v2 vd.heap.size [.string s1] := by rw [← hx_]; exact CellsAt.new vd #[.string s1] _
      clear hx_
      obtain ⟨zb, hzb⟩ : ∃ zb, zb = vd.heap.size := ⟨_, rfl⟩
      rw [← hzb] at hz ⊢
      clear hzb
      replace hM := hM.below hbq hTx.lt
      replace hOx := hOx.below hbq
      replace hTx := hTx.below hbq
      replace y0 := (hbq.cell (p := ⟨bx, 0, none⟩) hxs).trans y0
      replace hxs := Nat.lt_of_lt_of_le hxs hbq.size
      clear hbq
      refine hkO hK y0 fun hHeld => ?_
      clear hK K
      refine rdN [6] ?_
      refine rdC (fun K hK => ?_) ?_
      ·have hzq : Seq v2 v2.heap.size C.sz (some ⟨zb, 0, none⟩) 1 [.string s1] := ⟨by rw [hk]; rfl, fun _ => ⟨zb, 0, rfl, hz.lt, fun j u hu => by rw [Nat.zero_add]; exact hz.cell j u hu⟩⟩
       rw [hk] at hOx hzq
       refine step_appS hOx Tryz.underlying30 lstr_r_info hzq h12 (by omega) ?_
       intro v9 v3 hO9 hg9
       obtain ⟨A9, c9, rfl⟩ := hO9.slice_form
       have hat9 := hg9.at_
       have hb9 := hTx.lt
       have hTy : Tgt v3 b o [.slice A' n' c'] := ⟨Nat.lt_of_lt_of_le hb9 hg9.by_.size, fun j u hu => (hg9.cell (p := ⟨b, o + j, none⟩) hb9 hbo).trans (hTx.at_ j u hu), fun j => (hg9.frozen (p := ⟨b, j, none⟩) hb9 hbo).trans (hTx.fr j)⟩
       have hle9 := hM.hs
       replace hM := hM.grew hg9 hb9 hbo
       replace y0 := (hg9.cell (p := ⟨bx, 0, none⟩) hxs hxo).trans y0
       clear hTx hOx hzq hz hg9 hxs
       refine hkO hK y0 fun hHeld => ?_
       clear hK K
       refine tkQ 7 ?_
       refine rdN [8] ?_
       refine rdC (fun K hK => ?_) ?_
       ·have t0 := hTy.c0
        have tf := hTy.fr
        go_simp
        clear t0 tf
        replace hTy := hTy.set1 (.slice A9 (n' + 1) c9)
        replace hM := hM.set (.slice A9 (n' + 1) c9)
        have hb9x : some b ≠ Value.ownBlock (.slice A9 (n' + 1) c9) := fun e => by
         rcases hat9 with e2 | e2
         ·exact hbo (e.trans e2)
         ·rw [e2] at e; injection e with e; omega
        replace hO9 := hO9.setAt hbW hb9x (.slice A9 (n' + 1) c9) (o := o)
        replace y0 := (World.cell?_setCell_far v3 ⟨b, o, none⟩ ⟨bx, 0, none⟩ (.slice A9 (n' + 1) c9) (fun e => hxb e.symm)).trans y0
        generalize (v3.setCell ⟨b, o, none⟩ (.slice A9 (n' + 1) c9)) = v4 at *
        refine hkO hK y0 fun hHeld => ?_
        clear hK K
        refine wpAnyH_done (by kernel_rfl) ?_ _
        clear hHeld
        have hOz : Own W0 v4 9 C.sz (.slice A9 (n' + 1) c9) (n' + 1) (xs ++ [.string s1]) := by rw [hk]; exact hO9
        have hN := LSt.next (T := 9) (cs' := [.string s1]) hC hgi hb1 hbg hgW hbW hm.out hal.out hP hRL hch hlo hba hbx.out (by rw [hbx.out]; exact hbxl) (by rw [hk]; exact (show Chg wa w' gi bx 0 (0 + 1) from by rw [← hk]; exact hcx)) (by rw [hk]; rfl) hcx0 hh hM.hk hM.hs hM.os hM.tp hM.ou hM.out hM.fr hOz (hat9.imp id (fun e => ⟨_, e, hle9⟩)) hTy
        repeat' (first | go_skip | go_guarded | go_step)
        go_roundw
        case rel => exact ⟨_, _, _, hN⟩
        case measure =>
         rw [hmes]
         obtain ⟨_, _, _, _, _, _, hh2⟩ := hN
         rcases hh2 with ⟨a2, r2, hm2, hal2, _, hC2, _⟩ | ⟨_, _, _, _, hC2⟩
         ·rw [mes_of hC2]
          rw [hm.out] at hm2
          have hal := hal.out
          have := congrArg List.length hm2
          simp only [List.length_append, List.length_cons] at this ⊢
          omega
         ·rw [mes_bad hC2]; simp
       exact AllReadyH.nil
      exact AllReadyH.nil
     exact AllReadyH.nil
    refine rdC (fun K hK => ?_) ?_
    ·go_simp
     generalize hx_ : World.alloc vd _ = v1
     have hbq : Below vd.heap.size vd v1 := by rw [← hx_]; exact (Below.refl _ _).alloc (Nat.le_refl _) _
     have hz : CellsAt v1 vd.heap.size [.string s1] := by rw [← hx_]; exact CellsAt.new vd #[.string s1] _
     clear hx_
     obtain ⟨zb, hzb⟩ : ∃ zb, zb = vd.heap.size := ⟨_, rfl⟩
     rw [← hzb] at hz ⊢
     clear hzb
     replace hM := hM.below hbq hTx.lt
     replace hOx := hOx.below hbq
     replace hTx := hTx.below hbq
     replace y0 := (hbq.cell (p := ⟨bx, 0, none⟩) hxs).trans y0
     replace hxs := Nat.lt_of_lt_of_le hxs hbq.size
     clear hbq
     refine hkO hK y0 fun hHeld => ?_
     clear hK K
     refine rdN [3] ?_
     refine rdC (fun K hK => ?_) ?_
     ·have t0 := hTx.c0
      go_simp
      clear t0
      refine hkO hK y0 fun hHeld => ?_
      clear hK K
      refine rdN [6] ?_
      refine rdC (fun K hK => ?_) ?_
      ·have hzq : Seq v1 v1.heap.size C.sz (some ⟨zb, 0, none⟩) 1 [.string s1] := ⟨by rw [hk]; rfl, fun _ => ⟨zb, 0, rfl, hz.lt, fun j u hu => by rw [Nat.zero_add]; exact hz.cell j u hu⟩⟩
       rw [hk] at hOx hzq
       refine step_appS hOx Tryz.underlying30 lstr_r_info hzq h12 (by omega) ?_
       intro v9 v3 hO9 hg9
       obtain ⟨A9, c9, rfl⟩ := hO9.slice_form
       have hat9 := hg9.at_
       have hb9 := hTx.lt
       have hTy : Tgt v3 b o [.slice A' n' c'] := ⟨Nat.lt_of_lt_of_le hb9 hg9.by_.size, fun j u hu => (hg9.cell (p := ⟨b, o + j, none⟩) hb9 hbo).trans (hTx.at_ j u hu), fun j => (hg9.frozen (p := ⟨b, j, none⟩) hb9 hbo).trans (hTx.fr j)⟩
       have hle9 := hM.hs
       replace hM := hM.grew hg9 hb9 hbo
       replace y0 := (hg9.cell (p := ⟨bx, 0, none⟩) hxs hxo).trans y0
       clear hTx hOx hzq hz hg9 hxs
       refine hkO hK y0 fun hHeld => ?_
       clear hK K
       refine tkQ 7 ?_
       refine rdN [8] ?_
       refine rdC (fun K hK => ?_) ?_
       ·have t0 := hTy.c0
        have tf := hTy.fr
        go_simp
        clear t0 tf
        replace hTy := hTy.set1 (.slice A9 (n' + 1) c9)
        replace hM := hM.set (.slice A9 (n' + 1) c9)
        have hb9x : some b ≠ Value.ownBlock (.slice A9 (n' + 1) c9) := fun e => by
         rcases hat9 with e2 | e2
         ·exact hbo (e.trans e2)
         ·rw [e2] at e; injection e with e; omega
        replace hO9 := hO9.setAt hbW hb9x (.slice A9 (n' + 1) c9) (o := o)
        replace y0 := (World.cell?_setCell_far v3 ⟨b, o, none⟩ ⟨bx, 0, none⟩ (.slice A9 (n' + 1) c9) (fun e => hxb e.symm)).trans y0
        generalize (v3.setCell ⟨b, o, none⟩ (.slice A9 (n' + 1) c9)) = v4 at *
        refine hkO hK y0 fun hHeld => ?_
        clear hK K
        refine wpAnyH_done (by kernel_rfl) ?_ _
        clear hHeld
        have hOz : Own W0 v4 9 C.sz (.slice A9 (n' + 1) c9) (n' + 1) (xs ++ [.string s1]) := by rw [hk]; exact hO9
        have hN := LSt.next (T := 9) (cs' := [.string s1]) hC hgi hb1 hbg hgW hbW hm.out hal.out hP hRL hch hlo hba hbx.out (by rw [hbx.out]; exact hbxl) (by rw [hk]; exact (show Chg wa w' gi bx 0 (0 + 1) from by rw [← hk]; exact hcx)) (by rw [hk]; rfl) hcx0 hh hM.hk hM.hs hM.os hM.tp hM.ou hM.out hM.fr hOz (hat9.imp id (fun e => ⟨_, e, hle9⟩)) hTy
        repeat' (first | go_skip | go_guarded | go_step)
        go_roundw
        case rel => exact ⟨_, _, _, hN⟩
        case measure =>
         rw [hmes]
         obtain ⟨_, _, _, _, _, _, hh2⟩ := hN
         rcases hh2 with ⟨a2, r2, hm2, hal2, _, hC2, _⟩ | ⟨_, _, _, _, hC2⟩
         ·rw [mes_of hC2]
          rw [hm.out] at hm2
          have hal := hal.out
          have := congrArg List.length hm2
          simp only [List.length_append, List.length_cons] at this ⊢
          omega
         ·rw [mes_bad hC2]; simp
       exact AllReadyH.nil
      exact AllReadyH.nil
     exact AllReadyH.nil
    exact AllReadyH.nil
  ·skip
   obtain ⟨Ar, cr, q0⟩ := hCR.c0
   have q2 := hCR.c2
   cases l' with
   | nil =>
    have q0 : wr.cell? ⟨gi, 0, none⟩ = some (.slice Ar 0 cr) := q0
    repeat' (first | go_skip | go_guarded | go_step)
    refine (done_r W0 wr g gi r0 [] b0 true hout hCR).mono ?_
    rintro e wf ⟨rfl, hg, hC2⟩
    dsimp only
    repeat' ((fail_if_success at_builtin); first | go_skip | go_guarded | go_step)
    go_end0
    exact ⟨rfl, list_bad (li := []) hI hch hTb hno rfl hg hC2⟩
   | cons y l2 =>
    have q0 : wr.cell? ⟨gi, 0, none⟩ = some (.slice Ar (l2.length + 1) cr) := q0
    have i1 : (0 : Int) < (l2.length : Int) + 1 := by omega
    repeat' (first | go_skip | go_guarded | go_step)
    refine (done_r W0 wr g gi r0 (y :: l2) b0 true hout hCR).mono ?_
    rintro e wf ⟨rfl, hg, hC2⟩
    dsimp only
    repeat' ((fail_if_success at_builtin); first | go_skip | go_guarded | go_step)
    go_end0
    exact ⟨rfl, list_bad (li := y :: l2) hI hch hTb hno rfl hg hC2⟩
theorem strs_rc : ReadC 127 Cod.strs (fitL fitS) [.slice none 0 0] := by
 intro W0 w g b o l bad h hb hne hT hc hl
 go_enter Tryz.func127, Tryz.ntmps127
 repeat' (first | go_skip | go_guarded | go_step)
 refine (lstr_r Cod.str Cod.str_ok rfl fitS strs1_rt W0 w g b o l bad h hb hne hT hc hl).mono ?_
 rintro e w1 ⟨rfl, hF⟩
 dsimp only
 repeat' ((fail_if_success at_builtin); first | go_skip | go_guarded | go_step)
 go_end0
 exact ⟨rfl, hF⟩
end Go.Proofs.YtgdapkglofchjaaGreatDoor
