/- Deploy: Request. -/
import Derived.Test.YtennhjkhjplmoaaDoorDpL
namespace Go.Proofs.YtennhjkhjplmoaaDoor
open Go.RowKit
/-- append of one element, in a region that draws its order -/
theorem step_app1 {P : Program} {ops : Array Oper} {o : Oper} {a : Act} {K : Act → World → Prop} {Q : Exit → Act → World → Prop} {E : Prop} {w W0 : World} {e : TypeId} {size n : Nat} {v : Value} {xs : List Value} (H : Own W0 w e size v n xs) {t : TypeId} {z : Value} {bytes : Nat} (ht : P.underlying t = some (.slice e)) (hi : Info P e z size bytes)
    (hbytes : (n + 1) * bytes ≤ 140737488355328) {cs : Array Value}
    (h : ∀ v' w', Own W0 w' e size v' (n + 1) (xs ++ cs.toList) → Grew (w.alloc (.cells cs e)) w' v v' → K (a.put o.dst v') w')
    {s x : Operand} {g : Nat} (hgd : o.guard = none := by rfl) (ho : o.op = .call { callee := .builtin .append, args := #[s, x], argTypes := #[t, t] } := by rfl)
    (hs : a.eval s = v := by rfl) (hx : a.eval x = .slice (some ⟨g, 0, none⟩) 1 1 := by rfl) (hgs : g = w.heap.size := by first | rfl | simp) (hzs : z.cells.size = size := by rfl) (hsz : 0 < size := by decide) (hby : 0 < bytes := by decide)
    (hcs : cs.size = size := by rfl) (h1 : cs.toList.all Value.oneCell' = true := by rfl) :
    if Region.wanted o (yielded ops a.tmps) = true then Oper.wp P o a (w.alloc (.cells cs e)) K Q else E := by
  subst hgs
  obtain ⟨hown, hB⟩ := H
  have hn := Nat.le_trans (Nat.le_mul_of_pos_right (n + 1) hby) hbytes
  obtain ⟨i, hi1, hi2, hi3, hi4⟩ := info_parts hi
  rw [if_pos (by simp [Region.wanted, hgd])]
  obtain ⟨v', w', hr, h2, h3, h4, h5⟩ := run_append_own_at (P := P) (w.alloc (.cells cs e)) W0.heap.size t o.type e i z size bytes ht hi1 hi2 hi3 hi4 hzs hsz v n xs (hown.alloc _) ⟨w.heap.size, 0, none⟩ 1 1 cs.toList (by simpa using hcs)
    (by
      intro j u hu
      rw [Addr.add_lit, Nat.zero_add]
      have := cell_of_row (w.alloc (.cells cs e)) w.heap.size j cs e (0, 0) (heap_alloc_new w _)
      rw [this]
      simpa using hu) (List.all_eq_true.1 h1) (by unfold maxLen; omega) hbytes (by have := hB.size; simp; omega)
  unfold Oper.wp execOp
  simp only [ho, resolve, invoke, builtin, Sem.run_bind, Sem.run_pure, Result.andThen_ok, List.map_toArray, List.map_cons, List.map_nil, hs, hx, hr]
  refine h v' w' ⟨h2, ?_⟩ ⟨h3, h5⟩
  exact (hB.alloc hB.size _).grown h3 (by have := hB.size; simp; omega) (fun k hk => (hown.lt k hk).1)
theorem grown_trans {w w1 w2 : World} {row : Option Nat} (h1 : w.grownBy w1 row) (h2 : w1.grownBy w2 row) : w.grownBy w2 row :=
  ⟨h2.os.trans h1.os, h2.tape.trans h1.tape, h2.output.trans h1.output, Nat.le_trans h1.size h2.size, fun k hk hr => (h2.block k (Nat.lt_of_lt_of_le hk h1.size) hr).trans (h1.block k hk hr)⟩
theorem vsC_take (L : List EnvV) (p : Nat) (hp : p ≤ L.length) : (vsC L).take (p * 5) = vsC (L.take p) := by
  have h : vsC L = vsC (L.take p) ++ vsC (L.drop p) := by rw [← vsC_app, List.take_append_drop]
  have hl : (vsC (L.take p)).length = p * 5 := by rw [vsC_len, List.length_take, Nat.min_eq_left hp]
  rw [h, List.take_append, hl, Nat.sub_self, List.take_zero, List.append_nil, List.take_of_length_le (by omega)]
theorem vsC_drop (L : List EnvV) (p : Nat) (hp : p ≤ L.length) : (vsC L).drop (p * 5) = vsC (L.drop p) := by
  have h : vsC L = vsC (L.take p) ++ vsC (L.drop p) := by rw [← vsC_app, List.take_append_drop]
  have hl : (vsC (L.take p)).length = p * 5 := by rw [vsC_len, List.length_take, Nat.min_eq_left hp]
  rw [h, List.drop_append, hl, Nat.sub_self, List.drop_zero, List.drop_of_length_le (by omega), List.nil_append]
/-- a new environment -/
def newE (s : ByteArray) : EnvV := ⟨⟨s, zR, [], []⟩, .slice none 0 0, .slice none 0 0⟩
theorem EP.ins {w0 w w' : World} {g n c p c' : Nat} {L : List EnvV} {s : ByteArray} {A' : Option Addr} (h : EO w0 w g n c L) (hp : p ≤ n) (hg : w.grownBy w' (some g))
    (ho : Own w0 w' envT 5 (.slice A' (n + 1) c') (n + 1) ((vsC L).take (p * 5) ++ vC (newE s) ++ (vsC L).drop (p * 5)))
    (hb : ∀ b, Value.ownBlock (.slice A' (n + 1) c') = some b → Value.ownBlock (.slice (some ⟨g, 0, none⟩) n c) = some b ∨ w.heap.size ≤ b) :
    ∃ g', A' = some ⟨g', 0, none⟩ ∧ EO w0 w' g' (n + 1) c' (L.take p ++ newE s :: L.drop p) := by
  obtain ⟨g', hA, hlo, _⟩ := ho.blk (by omega)
  subst hA
  have hln := h.ln
  rw [vsC_take L p (by omega), vsC_drop L p (by omega), List.append_assoc, show vC (newE s) ++ vsC (L.drop p) = vsC (newE s :: L.drop p) from rfl, ← vsC_app] at ho
  have hgb : g' = g ∨ w.heap.size ≤ g' := by
    rcases hb g' rfl with h1 | h1
    · have h2 : some g = some g' := h1
      injection h2 with h2
      exact .inl h2.symm
    · exact .inr h1
  have sb : ∀ e ∈ L, Sub w0 w' e := fun e he => (h.sub e he).grown hg (fun b hb1 hb2 => (h.d0 e he).1 (by rw [hb1, ← hb2])) (fun b hb1 hb2 => (h.d0 e he).2 (by rw [hb1, ← hb2])) (fun k hk => by injection hk with hk; rw [← hk]; exact h.lo)
  have db : ∀ e ∈ L, e.u.ownBlock ≠ some g' ∧ e.v.ownBlock ≠ some g' := fun e he => by
    rcases hgb with h1 | h1
    · rw [h1]; exact h.d0 e he
    · have := h.ltU he
      exact ⟨fun h2 => by have := this.1 g' h2; omega, fun h2 => by have := this.2 g' h2; omega⟩
  have mem : ∀ e ∈ L.take p ++ newE s :: L.drop p, e ∈ L ∨ e = newE s := fun e he => by
    rcases List.mem_append.1 he with he | he
    · exact .inl (List.mem_of_mem_take he)
    · rcases List.mem_cons.1 he with he | he
      · exact .inr he
      · exact .inl (List.mem_of_mem_drop he)
  have sn : Sub w0 w' (newE s) := ⟨⟨World.ownsRow_nil _ _ _ _, ho.2⟩, ⟨World.ownsRow_nil _ _ _ _, ho.2⟩, fun b hb1 => by cases hb1⟩
  have one : ∀ (i : Nat) (e : EnvV), (L.take p ++ newE s :: L.drop p)[i]? = some e → (∃ j, L[j]? = some e ∧ (i < p ∧ j = i ∨ p < i ∧ j + 1 = i)) ∨ (i = p ∧ e = newE s) := by
    intro i e hi
    have htl : (L.take p).length = p := by rw [List.length_take]; omega
    by_cases h1 : i < p
    · rw [List.getElem?_append_left (by omega), List.getElem?_take_of_lt h1] at hi
      exact .inl ⟨i, hi, .inl ⟨h1, rfl⟩⟩
    · rw [List.getElem?_append_right (by omega), htl] at hi
      by_cases h2 : i = p
      · subst h2
        rw [Nat.sub_self] at hi
        injection hi with hi
        exact .inr ⟨rfl, hi.symm⟩
      · rw [show i - p = (i - p - 1) + 1 from by omega, List.getElem?_cons_succ, List.getElem?_drop] at hi
        exact .inl ⟨_, hi, .inr ⟨by omega, by omega⟩⟩
  have nn : ∀ a : Value, Diff a (.slice none 0 0) ∧ Diff (.slice none 0 0) a := fun a => ⟨fun b _ h => (by cases h), fun b h _ => (by cases h)⟩
  refine ⟨g', rfl, by rw [List.append_nil]; exact ho, by simp; omega, hlo, fun e he => ?_, fun e he => ?_, fun i j e f hij he hf => ?_⟩
  · rcases mem e he with h1 | h1
    · exact sb e h1
    · rw [h1]; exact sn
  · rcases mem e he with h1 | h1
    · exact db e h1
    · rw [h1]; exact ⟨fun h => (by cases h), fun h => (by cases h)⟩
  · rcases one i e he with ⟨i', h1, k1⟩ | ⟨h1, rfl⟩ <;> rcases one j f hf with ⟨j', h2, k2⟩ | ⟨h2, rfl⟩
    · exact h.d1 i' j' e f (by omega) h1 h2
    · exact ⟨(nn _).1, (nn _).1, (nn _).1, (nn _).1⟩
    · exact ⟨(nn _).2, (nn _).2, (nn _).2, (nn _).2⟩
    · omega
theorem EP.cellG {w0 w : World} {g n c k j : Nat} {L : List EnvV} {e : EnvV} {u : Value} (h : Own w0 w envT 5 (.slice (some ⟨g, 0, none⟩) n c) n (vsC L)) (hk : L[k]? = some e) (hu : (vC e)[j]? = some u) : w.cell? ⟨g, k * 5 + j, none⟩ = some u := by
  have := h.1.cells (g := g) rfl (k * 5 + j) _ (vsC_at j hk hu)
  rw [Addr.add_lit, Nat.zero_add] at this
  exact this
theorem grown_alloc (w : World) (ob : _) (row : Option Nat) : w.grownBy (w.alloc ob) row :=
  ⟨rfl, rfl, rfl, by simp, fun k hk _ => by
    show (w.heap.push _)[k]? = _
    rw [Array.getElem?_push, if_neg (by omega)]⟩
theorem EP.ask {w0 w w' w1 : World} {g n c k : Nat} {L : List EnvV} {x : Env} {u v u' : Value} {r : Ref} (h : EO w0 w g n c L) (hk : L[k]? = some ⟨x, u, v⟩) (ho : Own w0 w' refT 2 u' (x.waiting.length + 1) (x.waiting.flatMap refC ++ [.string r.run, .string r.job])) (hg : Grew w w' u u') (hw1 : w1 = w'.setCell ⟨g, k * 5 + 3, none⟩ u') : EO w0 w1 g n c (L.set k ⟨askE r x, u', v⟩) := by
  have hm := List.mem_of_getElem? hk
  have hs := h.sub _ hm
  have hl := h.ltU hm
  refine h.put hk hg.by_ (.inr (.inl rfl)) (e' := ⟨askE r x, u', v⟩) ⟨?_, hs.ht.grown hg.by_ (fun b hb e => hs.d b e hb) (fun b hb => (hs.wt.1.lt b hb).1), fun b hb hv => ?_⟩ (fun b hb => ?_) (NewB.refl _ _) 3 u' (by decide) rfl w1 hw1
  · show Own w0 w' refT 2 u' (x.waiting ++ [r]).length ((x.waiting ++ [r]).flatMap refC)
    rw [List.length_append, List.flatMap_append]
    exact ho
  · rcases hg.at_ with h1 | h1
    · exact hs.d b (h1 ▸ hb) hv
    · have hb2 : u'.ownBlock = some b := hb
      rw [h1] at hb2
      injection hb2 with hb2
      have := hl.2 b hv
      omega
  · have hb2 : u'.ownBlock = some b := hb
    rcases hg.at_ with h1 | h1
    · exact .inl (h1 ▸ hb2)
    · rw [h1] at hb2
      injection hb2 with hb2
      exact .inr (by omega)
theorem EP.one {w0 w : World} {g n c : Nat} {L : List EnvV} (h : EO w0 w g n c L) : ∀ v ∈ vsC L, v.oneCell' = true := by
  intro v hv
  obtain ⟨e, he, hv⟩ := List.mem_flatMap.1 hv
  have hs := h.sub e he
  obtain ⟨A1, c1, e1⟩ := hs.wt.slice_form
  obtain ⟨A2, c2, e2⟩ := hs.ht.slice_form
  simp only [vC, List.mem_cons, List.not_mem_nil, or_false] at hv
  rcases hv with rfl | rfl | rfl | rfl | rfl
  · rfl
  · rfl
  · rfl
  · rw [e1]; rfl
  · rw [e2]; rfl
theorem EP.ins2 {w0 w w' : World} {g n c p c' : Nat} {L : List EnvV} {l : List Env} {s : ByteArray} {A' : Option Addr} (h : EO w0 w g n c L) (hl : L.map (·.x) = l) (hp : p ≤ n) (hg : w.grownBy w' (some g))
    (ho : Own w0 w' envT 5 (.slice A' (n + 1) c') (n + 1) ((vsC L).take (p * 5) ++ vC (newE s) ++ (vsC L).drop (p * 5)))
    (hb : ∀ b, Value.ownBlock (.slice A' (n + 1) c') = some b → Value.ownBlock (.slice (some ⟨g, 0, none⟩) n c) = some b ∨ w.heap.size ≤ b) :
    ∃ (g' : Nat) (L' : List EnvV) (x : Env), A' = some ⟨g', 0, none⟩ ∧ EO w0 w' g' (n + 1) c' L' ∧ L'[p]? = some ⟨x, .slice none 0 0, .slice none 0 0⟩ ∧ x.waiting.length ≤ 0 ∧ ∀ r u v, (L'.set p ⟨askE r x, u, v⟩).map (·.x) = l.take p ++ ⟨s, zR, [r], []⟩ :: l.drop p := by
  obtain ⟨g', hA, hE⟩ := h.ins hp hg ho hb
  have hln := h.ln
  have htl : (L.take p).length = p := by rw [List.length_take]; omega
  refine ⟨g', _, ⟨s, zR, [], []⟩, hA, hE, ?_, Nat.le_refl _, fun r u v => ?_⟩
  · rw [List.getElem?_append_right (by omega), htl, Nat.sub_self]
    rfl
  · rw [List.set_append_right _ _ (by omega), htl, Nat.sub_self, ← hl, List.map_append, List.map_take, ← List.map_drop]
    rfl
set_option maxRecDepth 100000 in
set_option maxHeartbeats 6000000 in
theorem request_any (l : List Env) (s : ByteArray) (r : Ref) (A : Option Addr) (n c : Nat) (w : World) (h : Envs w A n c l) (hs : s.size ≤ 1000000) :
    Calls Tryd.prog 13 #[.slice A n c, .string s, .agg #[.string r.run, .string r.job]] w (RetL w (reqL l s r)) := by
  obtain ⟨w1, hw1⟩ : ∃ w1, w1 = (w.alloc (.cells #[.string s] 9)).alloc (.cells #[.string r.run, .string r.job] refT) := ⟨_, rfl⟩
  have hb0 : Below w.heap.size w w1 := by rw [hw1]; exact ((Below.refl _ _).alloc (Nat.le_refl _) _).alloc (by simp) _
  have q0 : w1.cell? ⟨w.heap.size, 0, none⟩ = some (.string s) := by
    rw [hw1]
    exact (((Below.refl (w.alloc (.cells #[.string s] 9)).heap.size (w.alloc (.cells #[.string s] 9))).alloc (Nat.le_refl _) _).cell (p := ⟨w.heap.size, 0, none⟩) (by simp)).trans ((CellsAt.new w #[.string s] 9).cell 0 _ rfl)
  have q1 : w1.cell? ⟨w.heap.size + 1, 0, none⟩ = some (.string r.run) := by
    rw [hw1]; simp
  have q2 : w1.cell? ⟨w.heap.size + 1, 1, none⟩ = some (.string r.job) := by
    rw [hw1]; simp
  have zr : w.heap.size + 1 < w1.heap.size := by rw [hw1]; simp
  have zn : w.heap.size < w1.heap.size := by omega
  have zr1 := zr
  go_enter Tryd.func13, Tryd.ntmps13
  go_upto_region 1 with (fail)
  rw [← hw1]
  clear hw1
  have h1 := h.below hb0
  have hl := h.len
  have hW := h.each
  have hn := h.n
  replace hn := Lib.hid hn
  have C := copied_any l A n c w1 h1
  replace C := Lib.hid C
  clear h
  repeat' ((fail_if_success at_builtin); (first | go_skip | go_guarded | go_step))
  refine C.out.mono ?_
  clear C
  rintro e w2 ⟨g, L, rfl, hE, hLx⟩
  dsimp only
  have hbe := hE.bel
  replace q0 := (hbe.cell (p := ⟨w.heap.size, 0, none⟩) zn).trans q0
  replace q1 := (hbe.cell (p := ⟨(w.heap.size + 1), 0, none⟩) zr).trans q1
  replace q2 := (hbe.cell (p := ⟨(w.heap.size + 1), 1, none⟩) zr).trans q2
  replace zn := Nat.lt_of_lt_of_le zn hbe.size
  replace zr := Nat.lt_of_lt_of_le zr hbe.size
  clear h1 hbe
  have C := idName_any s w2 (by omega)
  have hm0 : (nameS s.data.toList && properR r) = false → reqL l s r = (l, 1) := fun h => by unfold reqL; rw [if_pos h]
  cases hnm : nameS s.data.toList with
  | false =>
    rw [hnm] at C hm0
    have hm := hm0 rfl
    replace hm := Lib.hid hm
    clear hm0
    replace C := Lib.hid C
    repeat' ((fail_if_success at_builtin); (first | go_skip | go_guarded | go_step))
    refine C.out.mono ?_
    clear C
    rintro e w3 ⟨rfl, hb3⟩
    dsimp only
    have hE3 := hE.below hb3
    replace hE3 := Lib.hid hE3
    clear hE
    repeat' ((fail_if_success at_builtin); (first | go_skip | go_guarded | go_step))
    go_ret2
    rw [hm.out]
    exact hE3.out.ret hLx hb0 1
  | true =>
    rw [hnm] at C hm0
    replace C := Lib.hid C
    repeat' ((fail_if_success at_builtin); (first | go_skip | go_guarded | go_step))
    refine C.out.mono ?_
    clear C
    rintro e w3 ⟨rfl, hb3⟩
    dsimp only
    replace q0 := (hb3.cell (p := ⟨w.heap.size, 0, none⟩) zn).trans q0
    replace q1 := (hb3.cell (p := ⟨(w.heap.size + 1), 0, none⟩) zr).trans q1
    replace q2 := (hb3.cell (p := ⟨(w.heap.size + 1), 1, none⟩) zr).trans q2
    replace zn := Nat.lt_of_lt_of_le zn hb3.size
    replace zr := Nat.lt_of_lt_of_le zr hb3.size
    have hE3 := hE.below hb3
    clear hE hb3
    have C := proper_any r w3
    cases hpr : properR r with
    | false =>
      rw [hpr] at C hm0
      have hm := hm0 rfl
      replace hm := Lib.hid hm
      clear hm0
      replace C := Lib.hid C
      repeat' ((fail_if_success at_builtin); (first | go_skip | go_guarded | go_step))
      refine C.out.mono ?_
      clear C
      rintro e w4 ⟨rfl, hb4⟩
      dsimp only
      have hE4 := hE3.below hb4
      replace hE4 := Lib.hid hE4
      clear hE3
      repeat' ((fail_if_success at_builtin); (first | go_skip | go_guarded | go_step))
      go_ret2
      rw [hm.out]
      exact hE4.out.ret hLx hb0 1
    | true =>
      clear hm0
      rw [hpr] at C
      replace C := Lib.hid C
      have hm0 : reqL l s r = if l.any (busyE r) = true then (l, (7 : Int))
        else match l[posA (nameE s) l]? with
          | some x => (l.set (posA (nameE s) l) (askE r x), (0 : Int))
          | none => (l.take (posA (aftE s) l) ++ ⟨s, zR, [r], []⟩ :: l.drop (posA (aftE s) l), (0 : Int)) := by
        unfold reqL
        rw [hnm, hpr, if_neg (by simp)]
        rfl
      replace hm0 := Lib.hid hm0
      clear hnm hpr
      repeat' ((fail_if_success at_builtin); (first | go_skip | go_guarded | go_step))
      refine C.out.mono ?_
      clear C
      rintro e w4 ⟨rfl, hb4⟩
      dsimp only
      replace q0 := (hb4.cell (p := ⟨w.heap.size, 0, none⟩) zn).trans q0
      replace q1 := (hb4.cell (p := ⟨(w.heap.size + 1), 0, none⟩) zr).trans q1
      replace q2 := (hb4.cell (p := ⟨(w.heap.size + 1), 1, none⟩) zr).trans q2
      replace zn := Nat.lt_of_lt_of_le zn hb4.size
      replace zr := Nat.lt_of_lt_of_le zr hb4.size
      have hE4 := hE3.below hb4
      clear hE3 hb4
      repeat' ((fail_if_success at_builtin); (first | go_skip | go_guarded | go_step))
      go_loopw [24] (fun u24 wr => ∃ i : Nat, i ≤ n ∧ u24 = .int .i64 (i : Int) ∧ Below w4.heap.size w4 wr ∧ (l.take i).any (busyE r) = false) (fun u24 _ => n - (intOf u24).toNat)
      case atStart => exact ⟨0, by omega, rfl, Below.refl _ _, by simp⟩
      case round =>
        obtain ⟨i, hi, rfl, hbr, hany⟩ := hrel
        have hEr := hE4.below hbr
        replace q0 := (hbr.cell (p := ⟨w.heap.size, 0, none⟩) zn).trans q0
        replace q1 := (hbr.cell (p := ⟨(w.heap.size + 1), 0, none⟩) zr).trans q1
        replace q2 := (hbr.cell (p := ⟨(w.heap.size + 1), 1, none⟩) zr).trans q2
        replace zn := Nat.lt_of_lt_of_le zn hbr.size
        replace zr := Nat.lt_of_lt_of_le zr hbr.size
        replace hany := Lib.hid hany
        have i0 : (0 : Int) ≤ (i : Int) := by omega
        have i2 : IntKind.i64.wrap ((i : Int) + 1) = (i : Int) + 1 := IntWalk.i64_in _ (by have := hn.out; omega)
        by_cases hlt : i < n
        · have i1 : (i : Int) < (n : Int) := by omega
          obtain ⟨x, hx⟩ : ∃ x, l[i]? = some x := ⟨_, List.getElem?_eq_getElem (by have := hn.out; omega)⟩
          have hxW := hW x (List.mem_of_getElem? hx)
          obtain ⟨A1, c1, A2, c2, hLk⟩ := hEr.at_ hLx hx
          have hwr := (Own.refR (hEr.sub _ (List.mem_of_getElem? hLk)).wt).slice rRef_ok
          have e0 := hEr.cell hLk 0 rfl
          rw [Nat.add_zero] at e0
          have e1 := hEr.cell hLk 1 rfl
          have e2 := hEr.cell hLk 2 rfl
          have e3 := hEr.cell hLk 3 rfl
          have e4 := hEr.cell hLk 4 rfl
          have hnx : (l.take (i + 1)).any (busyE r) = busyE r x := by rw [List.take_add_one, hx, List.any_append, hany.out]; simp
          have hxm := List.mem_of_getElem? hx
          replace hnx := Lib.hid hnx
          go_upto_region 7 with (fail)
          have hba := (Below.refl wr.heap.size wr).alloc (Nat.le_refl _) (.cells #[.string x.name, .string x.holder.run, .string x.holder.job, .slice A1 x.waiting.length c1, .slice A2 x.history.length c2] envT)
          have hC := CellsAt.new wr #[.string x.name, .string x.holder.run, .string x.holder.job, .slice A1 x.waiting.length c1, .slice A2 x.history.length c2] envT
          generalize hx_ : World.alloc wr _ = wa at hba hC ⊢
          clear hx_ e0 e1 e2 e3 e4
          have e1 := hC.cell 1 _ rfl
          have e2 := hC.cell 2 _ rfl
          have e3 := hC.cell 3 _ rfl
          replace q0 := (hba.cell (p := ⟨w.heap.size, 0, none⟩) zn).trans q0
          replace q1 := (hba.cell (p := ⟨(w.heap.size + 1), 0, none⟩) zr).trans q1
          replace q2 := (hba.cell (p := ⟨(w.heap.size + 1), 1, none⟩) zr).trans q2
          replace zn := Nat.lt_of_lt_of_le zn hba.size
          replace zr := Nat.lt_of_lt_of_le zr hba.size
          have hEa := hEr.below hba
          have hwa := (hwr.below rRef_ok hba).more rRef_ok (fun _ hp => Nat.lt_of_lt_of_le hp hba.size)
          have qE1 := qE_R x.holder r
          have C := cnR_any x.waiting r A1 x.waiting.length c1 wa ⟨hwa, hxW.wait⟩
          have hby : busyE r x = (eqR x.holder r || hasR x.waiting r) := rfl
          clear hwr hC hwa hx
          cases hz : eqR x.holder r with
          | true =>
            simp only [hz] at qE1
            have hm : reqL l s r = (l, 7) := by rw [hm0.out, if_pos (List.any_eq_true.2 ⟨x, hxm, by rw [hby, hz]; rfl⟩)]
            replace hm := Lib.hid hm
            clear C hby hz
            replace hEa := Lib.hid hEa
            repeat' ((fail_if_success at_builtin); (first | ((with_reducible show wpList _ _ _ _ _ _); first | refine wpList_eqS rfl rfl rfl rfl (by first | exact qE1 _ | exact qE2 _ | exact qE3 _ | exact qE4 _) (by kernel_rfl) ?_ | refine wpList_neS rfl rfl rfl rfl (by first | exact qE1 _ | exact qE2 _ | exact qE3 _ | exact qE4 _) (by kernel_rfl) ?_) | go_skip | go_guarded | go_step))
            go_ret2
            rw [hm.out]
            exact hEa.out.ret hLx hb0 7
          | false =>
            simp only [hz] at qE1
            rw [hz, Bool.false_or] at hby
            clear hz
            cases hh : hasR x.waiting r with
            | true =>
              rw [hh] at C hby
              have hm : reqL l s r = (l, 7) := by rw [hm0.out, if_pos (List.any_eq_true.2 ⟨x, hxm, hby⟩)]
              replace hm := Lib.hid hm
              replace C := Lib.hid C
              clear hby hh
              repeat' ((fail_if_success at_builtin); (first | ((with_reducible show wpList _ _ _ _ _ _); first | refine wpList_eqS rfl rfl rfl rfl (by first | exact qE1 _ | exact qE2 _ | exact qE3 _ | exact qE4 _) (by kernel_rfl) ?_ | refine wpList_neS rfl rfl rfl rfl (by first | exact qE1 _ | exact qE2 _ | exact qE3 _ | exact qE4 _) (by kernel_rfl) ?_) | go_skip | go_guarded | go_step))
              refine C.out.mono ?_
              clear C
              rintro e wb ⟨rfl, hbb⟩
              dsimp only
              have hEb := hEa.below hbb
              replace hEb := Lib.hid hEb
              repeat' ((fail_if_success at_builtin); (first | go_skip | go_guarded | go_step))
              go_ret2
              rw [hm.out]
              exact hEb.out.ret hLx hb0 7
            | false =>
              rw [hh] at C hby
              have hnx2 := hnx.out
              rw [hby] at hnx2
              replace hnx2 := Lib.hid hnx2
              replace C := Lib.hid C
              clear hby hh
              repeat' ((fail_if_success at_builtin); (first | ((with_reducible show wpList _ _ _ _ _ _); first | refine wpList_eqS rfl rfl rfl rfl (by first | exact qE1 _ | exact qE2 _ | exact qE3 _ | exact qE4 _) (by kernel_rfl) ?_ | refine wpList_neS rfl rfl rfl rfl (by first | exact qE1 _ | exact qE2 _ | exact qE3 _ | exact qE4 _) (by kernel_rfl) ?_) | go_skip | go_guarded | go_step))
              refine C.out.mono ?_
              clear C
              rintro e wb ⟨rfl, hbb⟩
              dsimp only
              have hbz := hbr.trans ((hba.trans (hbb.mono hba.size)).mono hbr.size)
              replace hbz := Lib.hid hbz
              repeat' ((fail_if_success at_builtin); (first | go_skip | go_guarded | go_step))
              go_roundw
              case rel => exact ⟨i + 1, by omega, by first | rfl | go_num, hbz.out, hnx2.out⟩
              case measure => (try go_num); (try simp [intOf]); (try omega)
        · have i1 : ¬ (i : Int) < (n : Int) := by omega
          have hno : l.any (busyE r) = false := by
            have := hany.out
            rwa [List.take_of_length_le (by rw [hn.out]; omega)] at this
          have hm1 := hm0.out
          rw [hno, if_neg (by simp)] at hm1
          clear hno hm0 hany hE4
          have C := find_any l s (some ⟨g, 0, none⟩) n n wr (hEr.envs hLx hl hW)
          by_cases hk : posA (nameE s) l < l.length
          · rw [posI_in hk] at C
            obtain ⟨x, hx⟩ : ∃ x, l[posA (nameE s) l]? = some x := ⟨_, List.getElem?_eq_getElem hk⟩
            rw [hx] at hm1
            dsimp only at hm1
            replace hk : posA (nameE s) l < n := by rw [← hn.out]; exact hk
            have hxW := hW x (List.mem_of_getElem? hx)
            obtain ⟨A1, c1, A2, c2, hLk⟩ := hEr.at_ hLx hx
            clear hx
            generalize posA (nameE s) l = k at *
            have k0 : (0 : Int) ≤ (k : Int) := by omega
            have k1 : (k : Int) < (n : Int) := by omega
            have k3 : ¬ (k : Int) < 0 := by omega
            replace C := Lib.hid C
            repeat' ((fail_if_success at_builtin); (first | go_skip | go_guarded | go_step))
            refine C.out.mono ?_
            clear C
            rintro e w5 ⟨rfl, hb5⟩
            dsimp only
            replace q0 := (hb5.cell (p := ⟨w.heap.size, 0, none⟩) zn).trans q0
            replace q1 := (hb5.cell (p := ⟨(w.heap.size + 1), 0, none⟩) zr).trans q1
            replace q2 := (hb5.cell (p := ⟨(w.heap.size + 1), 1, none⟩) zr).trans q2
            replace zn := Nat.lt_of_lt_of_le zn hb5.size
            replace zr := Nat.lt_of_lt_of_le zr hb5.size
            have hE5 := hEr.below hb5
            clear hEr hb5
            have hwl := hxW.wait
            repeat' ((fail_if_success at_builtin); (first | go_skip | go_guarded | go_step))
            have hown := (hE5.sub _ (List.mem_of_getElem? hLk)).wt.below (Below.refl w5.heap.size w5).drew
            have hEd := fun ob => hE5.below (((Below.refl w5.heap.size w5).drew).alloc (Nat.le_refl _) ob)
            have e3 := hE5.cell hLk 3 rfl
            have m3 := fun ob => (hEd ob).cell hLk 3 rfl
            have hbd := fun ob => ((Below.refl w5.heap.size w5).drew).alloc (Nat.le_refl _) ob
            have m0 := fun ob => ((hbd ob).cell (p := ⟨(w.heap.size + 1), 0, none⟩) zr).trans q1
            have m1 := fun ob => ((hbd ob).cell (p := ⟨(w.heap.size + 1), 1, none⟩) zr).trans q2
            have m4 := fun ob => (hE5.below ((Below.refl w5.heap.size w5).alloc (Nat.le_refl _) ob)).cell hLk 3 rfl
            have hby : (x.waiting.length + 1) * 32 ≤ 140737488355328 := by omega
            have mixed : Tryd.prog.follows .mixedOrders = true := by kernel_rfl
            go_region_law_o (refine step_app1 hown Tryd.underlying58 ref_info hby ?_; intro v4 w4 ho4 hg4; obtain ⟨A4, c4, hv4⟩ := ho4.slice_form; subst hv4; have hrow := (hEd _).rowG hLk hg4.by_ (.inr (.inl rfl)); have e3w := EP.cellG (j := 3) hrow hLk rfl; have hfw := hrow.1.frozenAt)
            all_goals
              generalize hx_ : World.setCell w4 _ _ = w6
              have hE6 := (hEd _).ask hLk ho4 hg4 hx_.symm
              have hLx6 : (L.set k ⟨askE r x, .slice A4 (x.waiting.length + 1) c4, .slice A2 x.history.length c2⟩).map (·.x) = l.set k (askE r x) := by rw [List.map_set, hLx]
              clear hx_ hrow
              replace hE6 := Lib.hid hE6
              (try repeat' ((fail_if_success at_builtin); (first | go_skip | go_guarded | go_step)))
              go_ret2
              rw [hm1]
              exact hE6.out.ret hLx6 hb0 0
          · rw [posI_out hk] at C
            rw [List.getElem?_eq_none (by omega)] at hm1
            dsimp only at hm1
            clear hk
            replace C := Lib.hid C
            repeat' ((fail_if_success at_builtin); (first | go_skip | go_guarded | go_step))
            refine C.out.mono ?_
            clear C
            rintro e w5 ⟨rfl, hb5⟩
            dsimp only
            replace q0 := (hb5.cell (p := ⟨w.heap.size, 0, none⟩) zn).trans q0
            replace q1 := (hb5.cell (p := ⟨(w.heap.size + 1), 0, none⟩) zr).trans q1
            replace q2 := (hb5.cell (p := ⟨(w.heap.size + 1), 1, none⟩) zr).trans q2
            replace zn := Nat.lt_of_lt_of_le zn hb5.size
            replace zr := Nat.lt_of_lt_of_le zr hb5.size
            have hE5 := hEr.below hb5
            clear hEr hb5
            have C := idxE_any 42 w.heap.size (enters_of Tryd.func42 (by kernel_rfl) rfl) (aftE s) l (some ⟨g, 0, none⟩) n n w5 (hE5.envs hLx hl hW) (fun x hx A1 c1 A2 c2 w' hb' => req1_any x A1 c1 A2 c2 s w.heap.size w' ((hb'.cell (p := ⟨w.heap.size, 0, none⟩) zn).trans q0) (Nat.le_trans (hW x hx).name (by decide)) (Nat.le_trans hs (by decide)))
            have hpl := posA_le (aftE s) l
            by_cases ha : posA (aftE s) l < l.length
            · rw [posI_in ha] at C
              have hpn : posA (aftE s) l ≤ n := by have := hn.out; omega
              clear ha hpl
              generalize posA (aftE s) l = p at *
              have p0 : (0 : Int) ≤ (p : Int) := by omega
              have p1 : ¬ (p : Int) < 0 := by omega
              have p2 : (p : Int) < (n : Int) + 1 := by omega
              have p3 : (p : Int) ≤ (n : Int) := by omega
              replace C := Lib.hid C
              repeat' ((fail_if_success at_builtin); (first | go_skip | go_guarded | go_step))
              refine C.out.mono ?_
              clear C
              rintro e w6 ⟨rfl, hb6⟩
              dsimp only
              replace q0 := (hb6.cell (p := ⟨w.heap.size, 0, none⟩) zn).trans q0
              replace q1 := (hb6.cell (p := ⟨(w.heap.size + 1), 0, none⟩) zr).trans q1
              replace q2 := (hb6.cell (p := ⟨(w.heap.size + 1), 1, none⟩) zr).trans q2
              replace zn := Nat.lt_of_lt_of_le zn hb6.size
              replace zr := Nat.lt_of_lt_of_le zr hb6.size
              have hE6 := hE5.below hb6
              clear hE5 hb6
              repeat' ((fail_if_success at_builtin); (first | go_skip | go_guarded | go_step))
              have C := insC_any (vsC L) (vC (newE s)) n n p (some ⟨g, 0, none⟩) w1 w6 hE6.rowO hpn (by have := hn.out; omega) rfl hE6.one (fun v hv => by simp only [vC, List.mem_cons, List.not_mem_nil, or_false] at hv; rcases hv with rfl | rfl | rfl | rfl | rfl <;> rfl)
              replace C := Lib.hid C
              refine C.out.mono ?_
              clear C
              rintro e w7 ⟨A', c', rfl, ho7, hb7, hg7⟩
              dsimp only
              have hgb := grown_trans (grown_alloc w6 _ _) hg7
              have hgl := hE6.lo
              obtain ⟨g', L', x, hA, hE7, hLk, hw0, hLx7⟩ := hE6.ins2 hLx hpn hgb ho7 hb7
              subst hA
              replace q1 := (World.cell?_of_block (a := ⟨w.heap.size + 1, 0, none⟩) (hgb.block (w.heap.size + 1) zr (fun e => by injection e with e; have e2 : w.heap.size + 1 = g := e; omega))).trans q1
              replace q2 := (World.cell?_of_block (a := ⟨w.heap.size + 1, 1, none⟩) (hgb.block (w.heap.size + 1) zr (fun e => by injection e with e; have e2 : w.heap.size + 1 = g := e; omega))).trans q2
              replace zr := Nat.lt_of_lt_of_le zr hgb.size
              clear q0 zn hE6 ho7 hb7 hg7 hgb hgl
              repeat' ((fail_if_success at_builtin); (first | go_skip | go_guarded | go_step))
              have hown := (hE7.sub _ (List.mem_of_getElem? hLk)).wt.below (Below.refl w7.heap.size w7).drew
              have hEd := fun ob => hE7.below (((Below.refl w7.heap.size w7).drew).alloc (Nat.le_refl _) ob)
              have e3 := hE7.cell hLk 3 rfl
              have m3 := fun ob => (hEd ob).cell hLk 3 rfl
              have hbd := fun ob => ((Below.refl w7.heap.size w7).drew).alloc (Nat.le_refl _) ob
              have m0 := fun ob => ((hbd ob).cell (p := ⟨(w.heap.size + 1), 0, none⟩) zr).trans q1
              have m1 := fun ob => ((hbd ob).cell (p := ⟨(w.heap.size + 1), 1, none⟩) zr).trans q2
              have m4 := fun ob => (hE7.below ((Below.refl w7.heap.size w7).alloc (Nat.le_refl _) ob)).cell hLk 3 rfl
              have hby : (x.waiting.length + 1) * 32 ≤ 140737488355328 := by omega
              have mixed : Tryd.prog.follows .mixedOrders = true := by kernel_rfl
              go_region_law_o (refine step_app1 hown Tryd.underlying58 ref_info hby ?_; intro v4 w4 ho4 hg4; obtain ⟨A4, c4, hv4⟩ := ho4.slice_form; subst hv4; have hrow := (hEd _).rowG hLk hg4.by_ (.inr (.inl rfl)); have e3w := EP.cellG (j := 3) hrow hLk rfl; have hfw := hrow.1.frozenAt)
              all_goals
                generalize hx_ : World.setCell w4 _ _ = w8
                have hE8 := (hEd _).ask hLk ho4 hg4 hx_.symm
                clear hx_ hrow
                replace hE8 := Lib.hid hE8
                (try repeat' ((fail_if_success at_builtin); (first | go_skip | go_guarded | go_step)))
                go_ret2
                rw [hm1]
                exact hE8.out.ret (hLx7 r _ _) hb0 0
            · rw [posI_out ha] at C
              have hpe : posA (aftE s) l = n := by have := hn.out; omega
              rw [hpe] at hm1
              have hpn : n ≤ n := Nat.le_refl _
              clear ha hpl hpe
              have p2 : (n : Int) < (n : Int) + 1 := by omega
              replace C := Lib.hid C
              repeat' ((fail_if_success at_builtin); (first | go_skip | go_guarded | go_step))
              refine C.out.mono ?_
              clear C
              rintro e w6 ⟨rfl, hb6⟩
              dsimp only
              replace q0 := (hb6.cell (p := ⟨w.heap.size, 0, none⟩) zn).trans q0
              replace q1 := (hb6.cell (p := ⟨(w.heap.size + 1), 0, none⟩) zr).trans q1
              replace q2 := (hb6.cell (p := ⟨(w.heap.size + 1), 1, none⟩) zr).trans q2
              replace zn := Nat.lt_of_lt_of_le zn hb6.size
              replace zr := Nat.lt_of_lt_of_le zr hb6.size
              have hE6 := hE5.below hb6
              clear hE5 hb6
              repeat' ((fail_if_success at_builtin); (first | go_skip | go_guarded | go_step))
              have C := insC_any (vsC L) (vC (newE s)) n n n (some ⟨g, 0, none⟩) w1 w6 hE6.rowO hpn (by have := hn.out; omega) rfl hE6.one (fun v hv => by simp only [vC, List.mem_cons, List.not_mem_nil, or_false] at hv; rcases hv with rfl | rfl | rfl | rfl | rfl <;> rfl)
              replace C := Lib.hid C
              refine C.out.mono ?_
              clear C
              rintro e w7 ⟨A', c', rfl, ho7, hb7, hg7⟩
              dsimp only
              have hgb := grown_trans (grown_alloc w6 _ _) hg7
              have hgl := hE6.lo
              obtain ⟨g', L', x, hA, hE7, hLk, hw0, hLx7⟩ := hE6.ins2 hLx hpn hgb ho7 hb7
              subst hA
              replace q1 := (World.cell?_of_block (a := ⟨w.heap.size + 1, 0, none⟩) (hgb.block (w.heap.size + 1) zr (fun e => by injection e with e; have e2 : w.heap.size + 1 = g := e; omega))).trans q1
              replace q2 := (World.cell?_of_block (a := ⟨w.heap.size + 1, 1, none⟩) (hgb.block (w.heap.size + 1) zr (fun e => by injection e with e; have e2 : w.heap.size + 1 = g := e; omega))).trans q2
              replace zr := Nat.lt_of_lt_of_le zr hgb.size
              clear q0 zn hE6 ho7 hb7 hg7 hgb hgl
              repeat' ((fail_if_success at_builtin); (first | go_skip | go_guarded | go_step))
              have hown := (hE7.sub _ (List.mem_of_getElem? hLk)).wt.below (Below.refl w7.heap.size w7).drew
              have hEd := fun ob => hE7.below (((Below.refl w7.heap.size w7).drew).alloc (Nat.le_refl _) ob)
              have e3 := hE7.cell hLk 3 rfl
              have m3 := fun ob => (hEd ob).cell hLk 3 rfl
              have hbd := fun ob => ((Below.refl w7.heap.size w7).drew).alloc (Nat.le_refl _) ob
              have m0 := fun ob => ((hbd ob).cell (p := ⟨(w.heap.size + 1), 0, none⟩) zr).trans q1
              have m1 := fun ob => ((hbd ob).cell (p := ⟨(w.heap.size + 1), 1, none⟩) zr).trans q2
              have m4 := fun ob => (hE7.below ((Below.refl w7.heap.size w7).alloc (Nat.le_refl _) ob)).cell hLk 3 rfl
              have hby : (x.waiting.length + 1) * 32 ≤ 140737488355328 := by omega
              have mixed : Tryd.prog.follows .mixedOrders = true := by kernel_rfl
              go_region_law_o (refine step_app1 hown Tryd.underlying58 ref_info hby ?_; intro v4 w4 ho4 hg4; obtain ⟨A4, c4, hv4⟩ := ho4.slice_form; subst hv4; have hrow := (hEd _).rowG hLk hg4.by_ (.inr (.inl rfl)); have e3w := EP.cellG (j := 3) hrow hLk rfl; have hfw := hrow.1.frozenAt)
              all_goals
                generalize hx_ : World.setCell w4 _ _ = w8
                have hE8 := (hEd _).ask hLk ho4 hg4 hx_.symm
                clear hx_ hrow
                replace hE8 := Lib.hid hE8
                (try repeat' ((fail_if_success at_builtin); (first | go_skip | go_guarded | go_step)))
                go_ret2
                rw [hm1]
                exact hE8.out.ret (hLx7 r _ _) hb0 0
end Go.Proofs.YtennhjkhjplmoaaDoor
