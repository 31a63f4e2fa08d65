/- Label: Implies. -/
import Derived.Test.YtppbblgdcckbdaaDoorLbB
import Derived.Test.YtppbblgdcckbdaaDoorLbVl
import Derived.Test.YtppbblgdcckbdaaDoorStrM
namespace Go.Proofs.YtppbblgdcckbdaaDoor
open Go.RowKit
open Go.Maps
abbrev PA (l : List ByteArray) : List Prt := prts (toLs l)
/-- bounds by name, in a map that the call made -/
structure Bt (w0 w : World) (mb : Nat) (m : List (ByteArray × Nat)) (F : List UInt8 → Bnd) : Prop where
  below : Below w0.heap.size w0 w
  map : PtrM Tryd.prog 9 w mb m
  mlo : w0.heap.size ≤ mb
  mlt : mb < w.heap.size
  cells : ∀ s g, assocB m s = some g → w0.heap.size ≤ g ∧ g ≠ mb ∧ CellsAt w g (bcells (F s.data.toList))
  inj : ∀ s s' g, assocB m s = some g → assocB m s' = some g → s.data.toList = s'.data.toList
theorem Bt.kept {w0 w w' : World} {mb : Nat} {m : List (ByteArray × Nat)} {F : List UInt8 → Bnd} (h : Bt w0 w mb m F) (hb : Below w.heap.size w w') : Bt w0 w' mb m F :=
  ⟨h.below.trans (hb.mono h.below.size), h.map.kept hb, h.mlo, Nat.lt_of_lt_of_le h.mlt hb.size, fun s g hs => ⟨(h.cells s g hs).1, (h.cells s g hs).2.1, (h.cells s g hs).2.2.kept hb⟩, h.inj⟩
theorem Bt.made (w : World) (F : List UInt8 → Bnd) : Bt w (w.alloc (.map #[] 0)) w.heap.size [] F :=
  ⟨(Below.refl _ _).alloc (Nat.le_refl _) _, PtrM.made w, Nat.le_refl _, by simp, (fun s g hs => by cases hs), (fun s s' g hs => by cases hs)⟩
theorem assoc_cons (x : ByteArray) (g : Nat) (m : List (ByteArray × Nat)) (s : ByteArray) : assocB ((x, g) :: m) s = if x.data.toList = s.data.toList then some g else assocB m s := rfl
theorem assoc_same (m : List (ByteArray × Nat)) {s s' : ByteArray} (h : s.data.toList = s'.data.toList) : assocB m s = assocB m s' := by
  induction m with
  | nil => rfl
  | cons p m ih => obtain ⟨x, g⟩ := p; rw [assoc_cons, assoc_cons, h, ih]
theorem Bt.insert {w0 w4 w5 : World} {mb : Nat} {m : List (ByteArray × Nat)} {F : List UInt8 → Bnd} (h : Bt w0 w4 mb m F) {x : ByteArray} {g : Nat} (hfresh : ∀ s g', assocB m s = some g' → g' ≠ g) (hlo : w0.heap.size ≤ g) (hne : g ≠ mb) (hC : CellsAt w4 g (bcells (F x.data.toList)))
    (hown : w5.ownsMap Tryd.prog 9 ptrM mb (m.length + 1) ((ptrD m).put (kS x) (.lit (.int .i64 (g : Int))))) (hg : w4.grownBy w5 (some mb)) : Bt w0 w5 mb ((x, g) :: m) F := by
  refine ⟨Below.own h.below hg h.mlo h.below.size, hown, h.mlo, Nat.lt_of_lt_of_le h.mlt hg.size, fun s g' hs => ?_, fun s s' g' h1 h2 => ?_⟩
  · rw [assoc_cons] at hs
    split at hs
    · rename_i he
      cases hs
      rw [← he]
      exact ⟨hlo, hne, hC.grow hg hne⟩
    · obtain ⟨c1, c2, c3⟩ := h.cells s g' hs
      exact ⟨c1, c2, c3.grow hg c2⟩
  · rw [assoc_cons] at h1 h2
    split at h1
    · rename_i e1
      cases h1
      split at h2
      · rename_i e2
        exact e1.symm.trans e2
      · exact absurd rfl (hfresh s' g h2)
    · split at h2
      · cases h2
        exact absurd rfl (hfresh s g h1)
      · exact h.inj s s' g' h1 h2
theorem Bt.upd {w0 w w' : World} {mb : Nat} {m : List (ByteArray × Nat)} {F F' : List UInt8 → Bnd} (h : Bt w0 w mb m F) {x : ByteArray} {g : Nat} (hx : assocB m x = some g) (hg : w.grownBy w' (some g)) (hC : CellsAt w' g (bcells (F' x.data.toList))) (hF : ∀ s, s ≠ x.data.toList → F' s = F s) : Bt w0 w' mb m F' := by
  obtain ⟨glo, gne, gc⟩ := h.cells x g hx
  refine ⟨Below.own h.below hg glo h.below.size, World.ownsMap.kept (row := some g) h.map hg (fun e => gne (by injection e with e; exact e.symm)), h.mlo, Nat.lt_of_lt_of_le h.mlt hg.size, fun s g' hs => ?_, h.inj⟩
  obtain ⟨c1, c2, c3⟩ := h.cells s g' hs
  by_cases he : g' = g
  · subst he
    have := h.inj s x g' hs hx
    rw [this]
    exact ⟨c1, c2, hC⟩
  · refine ⟨c1, c2, ?_⟩
    rw [hF]
    · exact c3.grow hg he
    · intro e
      rw [assoc_same m (s := s) (s' := x) e, hx] at hs
      cases hs
      exact he rfl
theorem bnd_snoc (a : List Prt) (t : Prt) (nm : List UInt8) : bndO (a ++ [t]) nm = if t.name = nm then addB (bndO a nm) t else bndO a nm := by
  unfold bndO
  rw [bndF_app, bndF_cons]
  split <;> rfl
theorem PA_snoc {l : List ByteArray} {i : Nat} {q : ByteArray} (h : l[i]? = some q) : PA (l.take (i + 1)) = PA (l.take i) ++ [readL q.data.toList] := by
  rw [take_snoc h]
  unfold PA prts toLs
  rw [List.map_append, List.map_append]
  rfl
theorem PA_drop {l : List ByteArray} {i : Nat} {q : ByteArray} (h : l[i]? = some q) : PA (l.drop i) = readL q.data.toList :: PA (l.drop (i + 1)) := by
  obtain ⟨hi, rfl⟩ := List.getElem?_eq_some_iff.1 h
  rw [List.drop_eq_getElem_cons hi]
  rfl
theorem can_at {l : List ByteArray} {i : Nat} {q : ByteArray} {pre : List Prt} (h : l[i]? = some q) : canF pre (PA (l.drop i)) = (decide ((readL q.data.toList).form ≠ 0) && (possB (bndO (pre ++ [readL q.data.toList]) (readL q.data.toList).name) && canF (pre ++ [readL q.data.toList]) (PA (l.drop (i + 1))))) := by
  rw [PA_drop h]
  rfl
theorem can_end {l : List ByteArray} {i : Nat} {pre : List Prt} (h : l.length ≤ i) : canF pre (PA (l.drop i)) = true := by
  rw [List.drop_of_length_le h]
  rfl
def impT (a : List Prt) (t : Prt) : Bool := decide (t.form ≠ 0) && (a.any (fun x => x.name == t.name) && impB (bndO a t.name) t)
theorem imp_at {l : List ByteArray} {i : Nat} {q : ByteArray} {a : List Prt} (h : l[i]? = some q) : (PA (l.drop i)).all (impT a) = (impT a (readL q.data.toList) && (PA (l.drop (i + 1))).all (impT a)) := by
  rw [PA_drop h]
  rfl
theorem imp_end {l : List ByteArray} {i : Nat} {a : List Prt} (h : l.length ≤ i) : (PA (l.drop i)).all (impT a) = true := by
  rw [List.drop_of_length_le h]
  rfl
theorem impA_def (a b : List Prt) : impA a b = (!canF [] a || b.all (impT a)) := rfl
theorem any_name_snoc (a : List Prt) (t : Prt) (s : List UInt8) : (a ++ [t]).any (fun x => x.name == s) = (a.any (fun x => x.name == s) || t.name == s) := by
  rw [List.any_append]; simp
set_option maxRecDepth 100000 in
set_option maxHeartbeats 6000000 in
theorem implies_all (l l2 : List ByteArray) (A A2 : Option Addr) (n c n2 c2 : Nat) (w : World) (hR : Ready w) (hn : n = l.length) (hs : Seq w w.heap.size 1 A n (cellsS l)) (hl : n ≤ 1000000) (hm : ∀ q ∈ l, q.size ≤ 1000000) (hn2 : n2 = l2.length) (hs2 : Seq w w.heap.size 1 A2 n2 (cellsS l2)) (hl2 : n2 ≤ 1000000) (hm2 : ∀ q ∈ l2, q.size ≤ 1000000) :
    Calls Tryd.prog 16 #[.slice A n c, .slice A2 n2 c2] w fun e w' => e = .returned (.bool (impA (PA l) (PA l2))) ∧ Below w.heap.size w w' := by
  have hmm := @run_makeMap Tryd.prog
  have hz : ∀ w', (zeroValue 45).run Tryd.prog w' = .ok (.pointer none) w' := fun _ => by kernel_rfl
  obtain ⟨fin, hfin⟩ : ∃ fin, fin = impA (PA l) (PA l2) := ⟨_, rfl⟩
  replace hfin := Lib.hid hfin
  replace hz := Lib.hid hz
  replace hs := Lib.hid hs
  replace hn := Lib.hid hn
  replace hm := Lib.hid hm
  replace hs2 := Lib.hid hs2
  replace hn2 := Lib.hid hn2
  replace hm2 := Lib.hid hm2
  have hT0 := Bt.made w (bndO (PA (l.take 0)))
  go_enter Tryd.func16, Tryd.ntmps16
  repeat' ((fail_if_success at_builtin); (first | go_skip | go_guarded | go_step))
  clear hmm
  generalize hw1 : World.alloc w _ = w1
  replace hT0 : Bt w w1 w.heap.size [] (bndO (PA (l.take 0))) := by rw [← hw1]; exact hT0
  clear hw1
  go_loopw [19] (fun u19 wr => ∃ (i : Nat) (m : List (ByteArray × Nat)), i ≤ n ∧ u19 = .int .i64 (i : Int) ∧ Bt w wr w.heap.size m (bndO (PA (l.take i))) ∧ (∀ s : ByteArray, (assocB m s).isSome = (PA (l.take i)).any (fun x => x.name == s.data.toList)) ∧ m.length ≤ i ∧ canF [] (PA l) = canF (PA (l.take i)) (PA (l.drop i))) (fun u19 _ => n - (intOf u19).toNat)
  case atStart => exact ⟨0, [], by omega, rfl, hT0, fun s => rfl, by simp, rfl⟩
  case round =>
    clear hT0
    obtain ⟨i, m, hi, rfl, hT, hnm, hml, hu⟩ := hrel
    by_cases hlt : i < n
    · have i0 : (0 : Int) ≤ (i : Int) := by omega
      have i1 : (i : Int) < (n : Int) := by omega
      have i2 : IntKind.i64.wrap ((i : Int) + 1) = (i : Int) + 1 := IntWalk.i64_in _ (by omega)
      obtain ⟨q, hq⟩ : ∃ q, l[i]? = some q := ⟨_, List.getElem?_eq_getElem (by have := hn.out; omega)⟩
      obtain ⟨bl, off, rfl, hbl, hcq⟩ := strs_at hs.out hlt hq
      have hq6 := hm.out q (List.mem_of_getElem? hq)
      have hu2 := hu.trans (can_at hq)
      have hsn := PA_snoc hq
      have cq := (hT.below.cell (p := ⟨bl, off + i, none⟩) hbl).trans hcq
      clear hcq hu
      have hR1 := hR.below hT.below
      replace hml := Lib.hid hml
      replace hnm := Lib.hid hnm
      repeat' ((fail_if_success at_builtin); (first | go_skip | go_guarded | go_step))
      refine (parse_any2 q wr hR1 hq6).mono ?_
      rintro e w2 ⟨rfl, hb2⟩
      dsimp only
      obtain ⟨p, hp⟩ : ∃ p, p = readL q.data.toList := ⟨_, rfl⟩
      have hnl : p.name.length ≤ q.size := by rw [hp]; have := read_len q.data.toList; rw [list_size] at this; exact this
      have hp5 : p.form ≤ 5 := by rw [hp]; exact read_form _
      rw [← hp] at hu2 hsn ⊢
      clear hp
      obtain ⟨pf, pn, pm⟩ := p
      replace hnl : pn.length ≤ q.size := hnl
      replace hp5 : pf ≤ 5 := hp5
      replace hu2 := Lib.hid hu2
      replace hsn := Lib.hid hsn
      have hT2 := hT.kept hb2
      have hT3 := hT2.kept ((Below.refl _ w2).alloc (Nat.le_refl _) (.cells (pval ⟨pf, pn, pm⟩) 33))
      have hX := CellsAt.new w2 (pval ⟨pf, pn, pm⟩) 33
      have hb8 : w.heap.size < w2.heap.size := hT2.mlt
      have hlt8 : ∀ s g, assocB m s = some g → g < w2.heap.size := fun s g h => (hT2.cells s g h).2.2.lt
      go_upto_region 6 with (fail)
      generalize hw3 : World.alloc w2 _ = w3
      replace hX : CellsAt w3 w2.heap.size (pval ⟨pf, pn, pm⟩).toList := by rw [← hw3]; exact hX
      replace hT3 : Bt w w3 w.heap.size m (bndO (PA (l.take i))) := by rw [← hw3]; exact hT3
      have hs3 : w2.heap.size < w3.heap.size := by rw [← hw3]; simp
      clear hw3 hT2 hT cq hR1 hb2
      generalize w2.heap.size = b8 at *
      have x0 := hX.cell 0 _ rfl
      have x1 := hX.cell 1 _ rfl
      have x2 := hX.cell 2 _ rfl
      have hb9 := hT3.below
      by_cases hF : pf = 0
      · subst hF
        have hf : fin = true := by
          rw [hfin.out, impA_def, hu2.out]
          rfl
        replace hf := Lib.hid hf
        repeat' ((fail_if_success at_builtin); (first | go_skip | go_guarded | go_step))
        go_ret
        exact ⟨retB (by rw [← hfin.out, hf.out]), hb9⟩
      · have hFb : ((pf : Int) == 0) = false := by simp; omega
        cases hA : assocB m (strS pn) with
        | none =>
          have hlk := hT3.map.look_none (t := 44) (e := 45) Tryd.underlying9 Tryd.underlying44 (hz.out w3) (s := strS pn) (by rw [strS_size]; omega) hA
          have hany : (PA (l.take i)).any (fun x => x.name == pn) = false := by
            have := hnm.out (strS pn)
            rw [hA] at this
            exact this.symm
          have hb0 : bndO (PA (l.take i)) pn = b0 := bndF_out _ _ _ hany
          have hkey := kS_key (P := Tryd.prog) (k := 9) Tryd.underlying9 (s := strS pn) (by rw [strS_size]; omega)
          have hnames : ∀ s : ByteArray, (assocB ((strS pn, w3.heap.size) :: m) s).isSome = (PA (l.take (i + 1))).any (fun x => x.name == s.data.toList) := by
            intro s
            rw [hsn.out, any_name_snoc, assoc_cons, ← hnm.out s]
            by_cases he : pn = s.data.toList
            · rw [if_pos he]; simp [he]
            · rw [if_neg he]; simp [he]
          have hlen : ((strS pn, w3.heap.size) :: m).length ≤ i + 1 := by have := hml.out; simp; omega
          have hT4 := hT3.kept ((Below.refl _ w3).alloc (Nat.le_refl _) (.cells #[.bool false, .bool false, .bool false, .int .i64 0, .int .i64 9007199254740992] 48))
          have hC4 := CellsAt.new w3 #[.bool false, .bool false, .bool false, .int .i64 0, .int .i64 9007199254740992] 48
          have hX4 := hX.kept ((Below.refl _ w3).alloc (Nat.le_refl _) (.cells #[.bool false, .bool false, .bool false, .int .i64 0, .int .i64 9007199254740992] 48))
          replace hnames := Lib.hid hnames
          replace hlen := Lib.hid hlen
          go_upto_region 11 with (fail)
          generalize hw4 : World.alloc w3 _ = w4
          replace hT4 : Bt w w4 w.heap.size m (bndO (PA (l.take i))) := by rw [← hw4]; exact hT4
          replace hC4 : CellsAt w4 w3.heap.size (bcells b0) := by rw [← hw4]; exact hC4
          replace hX4 : CellsAt w4 b8 (pval ⟨pf, pn, pm⟩).toList := by rw [← hw4]; exact hX4
          clear hw4 hlk x0 x1 x2
          have hlo3 : w.heap.size ≤ w3.heap.size := hb9.size
          have hltm := hT3.mlt
          generalize w3.heap.size = gx at *
          have x1 := hX4.cell 1 _ rfl
          repeat' ((fail_if_success at_mapUpdate); (fail_if_success at_builtin); (first | go_skip | go_guarded | go_step))
          refine wpList_mapUpdate_own _ rfl _ _ _ 44 rfl 9 45 (string_keyed Tryd.underlying9) Tryd.underlying44 ptrM w.heap.size _ _ rfl hT4.map (by have := hml.out; unfold maxLen; omega) _ _ (kS (strS pn)) rfl rfl hkey (.lit (.int .i64 (gx : Int))) [] rfl ?_
          intro w5 hown5 hg5
          have hT5 : Bt w w5 w.heap.size ((strS pn, gx) :: m) (bndO (PA (l.take i))) := hT4.insert (fun s g h => Nat.ne_of_lt (Nat.lt_trans (hlt8 s g h) hs3)) hlo3 (by omega) (by rw [strS_list, hb0]; exact hC4) hown5 hg5
          have hX5 := hX4.grow hg5 (by omega)
          have hAg : assocB ((strS pn, gx) :: m) (strS pn) = some gx := by rw [assoc_cons, if_pos rfl]
          clear hT4 hX4 hown5 hg5 hC4 x1
          have x0 := hX5.cell 0 _ rfl
          have x1 := hX5.cell 1 _ rfl
          have x2 := hX5.cell 2 _ rfl
          have hCg := (hT5.cells _ gx hAg).2.2
          repeat' ((fail_if_success at_builtin); (first | go_skip | go_guarded | go_step))
          refine (add_any (bndO (PA (l.take i)) pn) ⟨pf, pn, pm⟩ gx _ hCg (by show 1 ≤ pf; omega) (by show pf ≤ 5; omega)).mono ?_
          rintro e w6 ⟨rfl, hg6, hC6⟩
          dsimp only
          have hT6 : Bt w w6 w.heap.size ((strS pn, gx) :: m) (bndO (PA (l.take (i + 1)))) := hT5.upd hAg hg6 (by rw [hsn.out, bnd_snoc, if_pos rfl]; exact hC6) (fun s hs => by rw [hsn.out, bnd_snoc, if_neg (fun e => hs e.symm)])
          have hCp : CellsAt w6 gx (bcells (bndO (PA (l.take (i + 1))) pn)) := (hT6.cells _ gx hAg).2.2
          repeat' ((fail_if_success at_builtin); (first | go_skip | go_guarded | go_step))
          refine (possible_any (bndO (PA (l.take (i + 1))) pn) gx _ hCp).mono ?_
          rintro e w7 ⟨rfl, hb7⟩
          dsimp only
          have hT7 := hT6.kept hb7
          have hb9 := hT7.below
          cases hpo : possB (bndO (PA (l.take (i + 1))) pn) with
          | false =>
            have hf : fin = true := by
              rw [hfin.out, impA_def, hu2.out, ← hsn.out]
              show (!(_ && (possB (bndO (PA (l.take (i + 1))) pn) && _)) || _) = true
              rw [hpo]
              simp
            replace hf := Lib.hid hf
            clear hpo
            repeat' ((fail_if_success at_builtin); (first | go_skip | go_guarded | go_step))
            go_ret
            exact ⟨retB (by rw [← hfin.out, hf.out]), hb9⟩
          | true =>
            have hun : canF [] (PA l) = canF (PA (l.take (i + 1))) (PA (l.drop (i + 1))) := by
              rw [hu2.out, ← hsn.out]
              show (decide (pf ≠ 0) && (possB (bndO (PA (l.take (i + 1))) pn) && _)) = _
              rw [hpo, decide_eq_true hF]
              rfl
            replace hun := Lib.hid hun
            clear hpo
            repeat' ((fail_if_success at_builtin); (first | go_skip | go_guarded | go_step))
            go_roundw
            case rel => exact ⟨i + 1, ((strS pn, gx) :: m), by omega, by go_num, hT7, hnames.out, hlen.out, hun.out⟩
            case measure => simp [intOf]; omega
        | some gx =>
          have hlk := hT3.map.look_some (t := 44) (e := 45) Tryd.underlying9 Tryd.underlying44 (hz.out w3) (s := strS pn) (by rw [strS_size]; omega) hA
          have hany : (PA (l.take i)).any (fun x => x.name == pn) = true := by
            have := hnm.out (strS pn)
            rw [hA] at this
            exact this.symm
          have hnames : ∀ s : ByteArray, (assocB m s).isSome = (PA (l.take (i + 1))).any (fun x => x.name == s.data.toList) := by
            intro s
            rw [hsn.out, any_name_snoc, ← hnm.out s]
            by_cases he : pn = s.data.toList
            · rw [assoc_same m (s := s) (s' := strS pn) (by rw [← he]), hA]; rfl
            · simp [he]
          have hlen : m.length ≤ i + 1 := by have := hml.out; omega
          replace hnames := Lib.hid hnames
          replace hlen := Lib.hid hlen
          have hT5 := hT3
          have hAg := hA
          have hCg := (hT5.cells _ gx hAg).2.2
          clear hX
          repeat' ((fail_if_success at_builtin); (first | go_skip | go_guarded | go_step))
          refine (add_any (bndO (PA (l.take i)) pn) ⟨pf, pn, pm⟩ gx _ hCg (by show 1 ≤ pf; omega) (by show pf ≤ 5; omega)).mono ?_
          rintro e w6 ⟨rfl, hg6, hC6⟩
          dsimp only
          have hT6 : Bt w w6 w.heap.size m (bndO (PA (l.take (i + 1)))) := hT5.upd hAg hg6 (by rw [hsn.out, bnd_snoc, if_pos rfl]; exact hC6) (fun s hs => by rw [hsn.out, bnd_snoc, if_neg (fun e => hs e.symm)])
          have hCp : CellsAt w6 gx (bcells (bndO (PA (l.take (i + 1))) pn)) := (hT6.cells _ gx hAg).2.2
          repeat' ((fail_if_success at_builtin); (first | go_skip | go_guarded | go_step))
          refine (possible_any (bndO (PA (l.take (i + 1))) pn) gx _ hCp).mono ?_
          rintro e w7 ⟨rfl, hb7⟩
          dsimp only
          have hT7 := hT6.kept hb7
          have hb9 := hT7.below
          cases hpo : possB (bndO (PA (l.take (i + 1))) pn) with
          | false =>
            have hf : fin = true := by
              rw [hfin.out, impA_def, hu2.out, ← hsn.out]
              show (!(_ && (possB (bndO (PA (l.take (i + 1))) pn) && _)) || _) = true
              rw [hpo]
              simp
            replace hf := Lib.hid hf
            clear hpo
            repeat' ((fail_if_success at_builtin); (first | go_skip | go_guarded | go_step))
            go_ret
            exact ⟨retB (by rw [← hfin.out, hf.out]), hb9⟩
          | true =>
            have hun : canF [] (PA l) = canF (PA (l.take (i + 1))) (PA (l.drop (i + 1))) := by
              rw [hu2.out, ← hsn.out]
              show (decide (pf ≠ 0) && (possB (bndO (PA (l.take (i + 1))) pn) && _)) = _
              rw [hpo, decide_eq_true hF]
              rfl
            replace hun := Lib.hid hun
            clear hpo
            repeat' ((fail_if_success at_builtin); (first | go_skip | go_guarded | go_step))
            go_roundw
            case rel => exact ⟨i + 1, m, by omega, by go_num, hT7, hnames.out, hlen.out, hun.out⟩
            case measure => simp [intOf]; omega
    · have i1 : ¬ (i : Int) < (n : Int) := by omega
      have hin : i = n := by omega
      have htk : l.take i = l := List.take_of_length_le (by have := hn.out; omega)
      have hcan : canF [] (PA l) = true := by rw [hu, can_end (by have := hn.out; omega)]
      rw [htk] at hT hnm
      have hst : fin = (PA (l2.drop 0)).all (impT (PA l)) := by
        rw [hfin.out, impA_def, hcan]
        rfl
      replace hst := Lib.hid hst
      replace hnm := Lib.hid hnm
      clear hu htk hcan hml
      obtain ⟨wo, hwo⟩ : ∃ wo : World, wo = wr := ⟨wr, rfl⟩
      subst hwo
      repeat' ((fail_if_success at_builtin); (first | go_skip | go_guarded | go_step))
      go_loopw [52] (fun u52 wr => ∃ k : Nat, k ≤ n2 ∧ u52 = .int .i64 (k : Int) ∧ Bt w wr w.heap.size m (bndO (PA l)) ∧ fin = (PA (l2.drop k)).all (impT (PA l))) (fun u52 _ => n2 - (intOf u52).toNat)
      case atStart => exact ⟨0, by omega, rfl, hT, hst.out⟩
      case round =>
        clear hT hst
        obtain ⟨k, hk, rfl, hT, hu⟩ := hrel
        by_cases hlk2 : k < n2
        · have k0 : (0 : Int) ≤ (k : Int) := by omega
          have k1 : (k : Int) < (n2 : Int) := by omega
          have k2 : IntKind.i64.wrap ((k : Int) + 1) = (k : Int) + 1 := IntWalk.i64_in _ (by omega)
          obtain ⟨q, hq⟩ : ∃ q, l2[k]? = some q := ⟨_, List.getElem?_eq_getElem (by have := hn2.out; omega)⟩
          obtain ⟨bl, off, rfl, hbl, hcq⟩ := strs_at hs2.out hlk2 hq
          have hq6 := hm2.out q (List.mem_of_getElem? hq)
          have hu2 := hu.trans (imp_at hq)
          have cq := (hT.below.cell (p := ⟨bl, off + k, none⟩) hbl).trans hcq
          have hR1 := hR.below hT.below
          clear hcq hu hq
          repeat' ((fail_if_success at_builtin); (first | go_skip | go_guarded | go_step))
          refine (parse_any2 q wr hR1 hq6).mono ?_
          rintro e w2 ⟨rfl, hb2⟩
          dsimp only
          obtain ⟨p, hp⟩ : ∃ p, p = readL q.data.toList := ⟨_, rfl⟩
          have hnl : p.name.length ≤ q.size := by rw [hp]; have := read_len q.data.toList; rw [list_size] at this; exact this
          have hp5 : p.form ≤ 5 := by rw [hp]; exact read_form _
          rw [← hp] at hu2 ⊢
          clear hp
          obtain ⟨pf, pn, pm⟩ := p
          replace hnl : pn.length ≤ q.size := hnl
          replace hp5 : pf ≤ 5 := hp5
          have hT2 := hT.kept hb2
          have hT3 := hT2.kept ((Below.refl _ w2).alloc (Nat.le_refl _) (.cells (pval ⟨pf, pn, pm⟩) 33))
          have hX := CellsAt.new w2 (pval ⟨pf, pn, pm⟩) 33
          go_upto_region 20 with (fail)
          generalize hw3 : World.alloc w2 _ = w3
          replace hX : CellsAt w3 w2.heap.size (pval ⟨pf, pn, pm⟩).toList := by rw [← hw3]; exact hX
          replace hT3 : Bt w w3 w.heap.size m (bndO (PA l)) := by rw [← hw3]; exact hT3
          clear hw3 hT2 hT cq hR1 hb2
          generalize w2.heap.size = b8 at *
          have x0 := hX.cell 0 _ rfl
          have x1 := hX.cell 1 _ rfl
          have x2 := hX.cell 2 _ rfl
          clear hX
          have hb9 := hT3.below
          cases hA : assocB m (strS pn) with
          | none =>
            have hlk := hT3.map.look_none (t := 44) (e := 45) Tryd.underlying9 Tryd.underlying44 (hz.out w3) (s := strS pn) (by rw [strS_size]; omega) hA
            have hany : (PA l).any (fun x => x.name == pn) = false := by
              have := hnm.out (strS pn)
              rw [hA] at this
              exact this.symm
            have hf : fin = false := by
              rw [hu2]
              unfold impT
              show ((decide (pf ≠ 0) && ((PA l).any (fun x => x.name == pn) && _)) && _) = false
              rw [hany]
              simp
            replace hf := Lib.hid hf
            clear hu2 hany
            by_cases hF : pf = 0
            · subst hF
              repeat' ((fail_if_success at_builtin); (first | go_skip | go_guarded | go_step))
              go_ret
              exact ⟨retB (by rw [← hfin.out, hf.out]), hb9⟩
            · have hFb : ((pf : Int) == 0) = false := by simp; omega
              repeat' ((fail_if_success at_builtin); (first | go_skip | go_guarded | go_step))
              go_ret
              exact ⟨retB (by rw [← hfin.out, hf.out]), hb9⟩
          | some gx =>
            have hlk := hT3.map.look_some (t := 44) (e := 45) Tryd.underlying9 Tryd.underlying44 (hz.out w3) (s := strS pn) (by rw [strS_size]; omega) hA
            have hany : (PA l).any (fun x => x.name == pn) = true := by
              have := hnm.out (strS pn)
              rw [hA] at this
              exact this.symm
            by_cases hF : pf = 0
            · subst hF
              have hf : fin = false := by
                rw [hu2]
                rfl
              replace hf := Lib.hid hf
              clear hu2 hany
              repeat' ((fail_if_success at_builtin); (first | go_skip | go_guarded | go_step))
              go_ret
              exact ⟨retB (by rw [← hfin.out, hf.out]), hb9⟩
            · have hFb : ((pf : Int) == 0) = false := by simp; omega
              have hu3 : fin = (impB (bndO (PA l) pn) ⟨pf, pn, pm⟩ && (PA (l2.drop (k + 1))).all (impT (PA l))) := by
                rw [hu2]
                unfold impT
                show ((decide (pf ≠ 0) && ((PA l).any (fun x => x.name == pn) && _)) && _) = _
                rw [hany, decide_eq_true hF]
                rfl
              replace hu3 := Lib.hid hu3
              clear hu2 hany
              have hCg := (hT3.cells _ gx hA).2.2
              repeat' ((fail_if_success at_builtin); (first | go_skip | go_guarded | go_step))
              refine (implies_any (bndO (PA l) pn) ⟨pf, pn, pm⟩ gx _ hCg (by show 1 ≤ pf; omega) (by show pf ≤ 5; omega)).mono ?_
              rintro e w6 ⟨rfl, hb6⟩
              dsimp only
              have hT6 := hT3.kept hb6
              have hb7 := hT6.below
              cases hiv : impB (bndO (PA l) pn) ⟨pf, pn, pm⟩ with
              | false =>
                have hf : fin = false := by rw [hu3.out, hiv]; rfl
                replace hf := Lib.hid hf
                clear hu3 hiv
                repeat' ((fail_if_success at_builtin); (first | go_skip | go_guarded | go_step))
                go_ret
                exact ⟨retB (by rw [← hfin.out, hf.out]), hb7⟩
              | true =>
                have hf : fin = (PA (l2.drop (k + 1))).all (impT (PA l)) := by rw [hu3.out, hiv]; rfl
                replace hf := Lib.hid hf
                clear hu3 hiv
                repeat' ((fail_if_success at_builtin); (first | go_skip | go_guarded | go_step))
                go_roundw
                case rel => exact ⟨k + 1, by omega, by go_num, hT6, hf.out⟩
                case measure => simp [intOf]; omega
        · have k1 : ¬ (k : Int) < (n2 : Int) := by omega
          have hf : fin = true := by rw [hu, imp_end (by have := hn2.out; omega)]
          replace hf := Lib.hid hf
          have hb9 := hT.below
          clear hu
          repeat' ((fail_if_success at_builtin); (first | go_skip | go_guarded | go_step))
          go_ret
          exact ⟨retB (by rw [← hfin.out, hf.out]), hb9⟩
end Go.Proofs.YtppbblgdcckbdaaDoor
