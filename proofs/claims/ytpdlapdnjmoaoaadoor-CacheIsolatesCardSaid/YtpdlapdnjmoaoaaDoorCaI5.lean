/- Cache: the law Isolates. -/
import Derived.Test.YtpdlapdnjmoaoaaDoorCaI4
import Derived.Test.YtpdlapdnjmoaoaaDoorHk
namespace Go.Proofs.YtpdlapdnjmoaoaaDoor
open Go.RowKit
set_option maxRecDepth 100000 in
set_option maxHeartbeats 20000000 in
theorem isolates_law (l0 : List Acn) (A0 : Option Addr) (n0 c0 : Nat) (o : Org) (ps : List ByteArray) (A2 : Option Addr) (m c2 : Nat) (w : World) (hR : Ready w) (hn : n0 = l0.length) (hs : Seq w w.heap.size 13 A0 n0 (actsC l0)) (hl : n0 ≤ 9223372036854775807) (hx : ∀ a ∈ l0, a.text) (ho1 : o.prj.size ≤ 9223372036854775807) (ho2 : o.ref.size ≤ 9223372036854775807)
    (hm : m = ps.length) (hs2 : Seq w w.heap.size 1 A2 m (ps.map Value.string)) (hl2 : m ≤ 9223372036854775807) (hc2 : m ≤ c2) :
    Calls Tryd.prog 9 #[.slice A0 n0 c0, .agg (ocells o), .slice A2 m c2] w fun e w' => e = .returned (.bool true) ∧ Below w.heap.size w w' := by
  obtain ⟨w1, hw1⟩ : ∃ w1 : World, w1 = w.alloc (.cells (ocells o) 54) := ⟨_, rfl⟩
  have hb1 : Below w.heap.size w w1 := by rw [hw1]; exact (Below.refl w.heap.size w).alloc (Nat.le_refl _) _
  have o0 : w1.cell? ⟨w.heap.size, 0, none⟩ = some (.string o.prj) := by rw [hw1]; simp [go_sem]
  have o1 : w1.cell? ⟨w.heap.size, 1, none⟩ = some (.string o.ref) := by rw [hw1]; simp [go_sem]
  have o2 : w1.cell? ⟨w.heap.size, 2, none⟩ = some (.bool o.fork) := by rw [hw1]; simp [go_sem]
  have z1 : w1.heap.size = w.heap.size + 1 := by rw [hw1]; simp
  have CA := fun (w' : World) (h : Below w.heap.size w w') => awake_any w' (hR.below h)
  replace CA := Lib.hid CA
  replace hw1 := Lib.hid hw1
  replace hs := Lib.hid hs
  replace hs2 := Lib.hid hs2
  replace hn := Lib.hid hn
  replace hm := Lib.hid hm
  replace hx := Lib.hid hx
  replace z1 := Lib.hid z1
  by_cases g1 : 25 < n0
  · have g1' : (25 : Int) < (n0 : Int) := by omega
    go_enter Tryd.func9, Tryd.ntmps9
    repeat' ((fail_if_success at_builtin); (first | go_skip | go_guarded | go_step))
    rw [← hw1.out]
    repeat' ((fail_if_success at_builtin); (first | go_skip | go_guarded | go_step))
    refine (CA.out _ (hb1)).mono ?_
    rintro e wz ⟨rfl, hbz⟩
    dsimp only
    have hbz2 := (hb1).trans (hbz.mono (hb1).size)
    repeat' ((fail_if_success at_builtin); (first | go_skip | go_guarded | go_step))
    go_ret
    exact ⟨rfl, hbz2⟩
  · have g1' : ¬ (25 : Int) < (n0 : Int) := by omega
    by_cases g2 : 6 < m
    · have g2' : (6 : Int) < (m : Int) := by omega
      go_enter Tryd.func9, Tryd.ntmps9
      repeat' ((fail_if_success at_builtin); (first | go_skip | go_guarded | go_step))
      rw [← hw1.out]
      repeat' ((fail_if_success at_builtin); (first | go_skip | go_guarded | go_step))
      refine (CA.out _ (hb1)).mono ?_
      rintro e wz ⟨rfl, hbz⟩
      dsimp only
      have hbz2 := (hb1).trans (hbz.mono (hb1).size)
      repeat' ((fail_if_success at_builtin); (first | go_skip | go_guarded | go_step))
      go_ret
      exact ⟨rfl, hbz2⟩
    · have g2' : ¬ (6 : Int) < (m : Int) := by omega
      by_cases g3 : 600 < o.prj.size
      · have g3' : (600 : Int) < (o.prj.size : Int) := by omega
        go_enter Tryd.func9, Tryd.ntmps9
        repeat' ((fail_if_success at_builtin); (first | go_skip | go_guarded | go_step))
        rw [← hw1.out]
        repeat' ((fail_if_success at_builtin); (first | go_skip | go_guarded | go_step))
        refine (CA.out _ (hb1)).mono ?_
        rintro e wz ⟨rfl, hbz⟩
        dsimp only
        have hbz2 := (hb1).trans (hbz.mono (hb1).size)
        repeat' ((fail_if_success at_builtin); (first | go_skip | go_guarded | go_step))
        go_ret
        exact ⟨rfl, hbz2⟩
      · have g3' : ¬ (600 : Int) < (o.prj.size : Int) := by omega
        by_cases g4 : 600 < o.ref.size
        · have g4' : (600 : Int) < (o.ref.size : Int) := by omega
          go_enter Tryd.func9, Tryd.ntmps9
          repeat' ((fail_if_success at_builtin); (first | go_skip | go_guarded | go_step))
          rw [← hw1.out]
          repeat' ((fail_if_success at_builtin); (first | go_skip | go_guarded | go_step))
          refine (CA.out _ (hb1)).mono ?_
          rintro e wz ⟨rfl, hbz⟩
          dsimp only
          have hbz2 := (hb1).trans (hbz.mono (hb1).size)
          repeat' ((fail_if_success at_builtin); (first | go_skip | go_guarded | go_step))
          go_ret
          exact ⟨rfl, hbz2⟩
        · have g4' : ¬ (600 : Int) < (o.ref.size : Int) := by omega
          go_enter Tryd.func9, Tryd.ntmps9
          repeat' ((fail_if_success at_builtin); (first | go_skip | go_guarded | go_step))
          rw [← hw1.out]
          refine (new_any 100 w1).mono ?_
          rintro e w2 ⟨rfl, hb2⟩
          dsimp only
          rw [show (if inR 100 0 1099511627776 = true then (100 : Int) else 0) = 100 from rfl, show (if inR 100 0 1099511627776 = true then (0 : Int) else 2) = 0 from rfl]
          have hbw2 := hb1.trans (hb2.mono hb1.size)
          have hC := CAx.fresh (w := w) (c := 0) hbw2 100 (l := []) rfl (seqE_nil _ _ none)
          have hlo : w.heap.size < w2.heap.size := by have := hb2.size; have := z1.out; omega
          have o0' := (hb2.cell (p := ⟨w.heap.size, 0, none⟩) (by show w.heap.size < w1.heap.size; have := z1.out; omega)).trans o0
          have o1' := (hb2.cell (p := ⟨w.heap.size, 1, none⟩) (by show w.heap.size < w1.heap.size; have := z1.out; omega)).trans o1
          have o2' := (hb2.cell (p := ⟨w.heap.size, 2, none⟩) (by show w.heap.size < w1.heap.size; have := z1.out; omega)).trans o2
          have hbs : Below w2.heap.size w2 ((w2.alloc (.cells #[.int .i64 100, .slice none 0 0] 24)).alloc (.cells #[.string mainB] 9)) := ((Below.refl _ _).alloc (Nat.le_refl _) _).alloc (by simp) _
          have hI : IInv w ((w2.alloc (.cells #[.int .i64 100, .slice none 0 0] 24)).alloc (.cells #[.string mainB] 9)) o w2.heap.size (w2.heap.size + 1) none 0 0 [] :=
            ⟨(hbs.cell (p := ⟨w.heap.size, 0, none⟩) hlo).trans o0', (hbs.cell (p := ⟨w.heap.size, 1, none⟩) hlo).trans o1', (hbs.cell (p := ⟨w.heap.size, 2, none⟩) hlo).trans o2', hlo, hC.at ((Below.refl _ _).alloc (Nat.le_refl _) _), by omega, by simp, by simp [go_sem]⟩
          clear hC o0 o1 o2 o0' o1' o2' hb1 hb2 hbs hbw2
          repeat' ((fail_if_success at_builtin); (first | go_skip | go_guarded | go_step))
          have hI : IInv w ((w2.alloc (.cells #[.int .i64 100, .slice none 0 0] 24)).alloc (.cells #[.string ⟨#[109, 97, 105, 110]⟩] 9)) o w2.heap.size (w2.heap.size + 1) none 0 0 [] := hI
          generalize hw3 : World.alloc (World.alloc w2 _) _ = w3
          replace hI : IInv w w3 o w2.heap.size (w2.heap.size + 1) none 0 0 [] := by rw [← hw3]; exact hI
          clear hw3
          generalize hb9 : w2.heap.size + 1 = b9 at *
          generalize w2.heap.size = b7 at *
          clear hlo hb9
          go_loopw [10, 11, 12] (fun u10 u11 u12 wr => ∃ (i : Nat) (A : Option Addr) (n c : Nat) (l : List Ent) (now : Int) (key : ByteArray), i ≤ n0 ∧ u12 = .int .i64 (i : Int) ∧ u10 = .int .i64 now ∧ u11 = .string key ∧ IInv w wr o b7 b9 A n c l ∧ PInv i l now ∧ key.size ≤ 600) (fun _ _ u12 _ => n0 - (intOf u12).toNat)
          case atStart => exact ⟨0, none, 0, 0, [], 0, _, by omega, rfl, rfl, rfl, hI, PInv.start, by decide⟩
          case round => as_aux_lemma =>
            clear hI
            obtain ⟨i, A, n, c, l, now, key, hi, rfl, rfl, rfl, hI, hP, hk⟩ := hrel
            have hbw := hI.x.below
            by_cases hlt : i < n0
            · have i0 : (0 : Int) ≤ (i : Int) := by omega
              have i1 : (i : Int) < (n0 : Int) := by omega
              have i2 : IntKind.i64.wrap ((i : Int) + 1) = (i : Int) + 1 := IntWalk.i64_in _ (by omega)
              have hlt2 : i < l0.length := by have := hn.out; omega
              obtain ⟨a, ha⟩ : ∃ a, l0[i]? = some a := ⟨_, List.getElem?_eq_getElem hlt2⟩
              obtain ⟨bl, off, rfl, hbB, hc⟩ := act_at hs.out hn.out ha
              have hxa := hx.out a (List.mem_of_getElem? ha)
              have hcr : CellsA wr bl (off + i * 13) a := hc.map fun j => hbw.cell (p := ⟨bl, off + i * 13 + j, none⟩) hbB
              have f0 := hcr 0 _ rfl
              have f1 := hcr 1 _ rfl
              have f2 := hcr 2 _ rfl
              have f3 := hcr 3 _ rfl
              have f4 := hcr 4 _ rfl
              have f5 := hcr 5 _ rfl
              have f6 := hcr 6 _ rfl
              have f7 := hcr 7 _ rfl
              have f8 := hcr 8 _ rfl
              have f9 := hcr 9 _ rfl
              have f10 := hcr 10 _ rfl
              have f11 := hcr 11 _ rfl
              have f12 := hcr 12 _ rfl
              simp only [Nat.add_zero] at f0
              have hD : CellsA (wr.alloc (.cells (act13 a) 61)) wr.heap.size 0 a := CellsA.new wr a
              have hbx : Below wr.heap.size wr (wr.alloc (.cells (act13 a) 61)) := (Below.refl _ _).alloc (Nat.le_refl _) _
              have hz : (wr.alloc (.cells (act13 a) 61)).heap.size = wr.heap.size + 1 := by simp
              clear hc hcr ha hbB
              by_cases g5 : a.wait < 0
              · clear hD
                repeat' ((fail_if_success at_builtin); (first | go_skip | go_guarded | go_step))
                refine (CA.out _ (hbw.trans (hbx.mono hbw.size))).mono ?_
                rintro e wz ⟨rfl, hbz⟩
                dsimp only
                have hbz2 := (hbw.trans (hbx.mono hbw.size)).trans (hbz.mono (hbw.trans (hbx.mono hbw.size)).size)
                repeat' ((fail_if_success at_builtin); (first | go_skip | go_guarded | go_step))
                go_ret
                exact ⟨rfl, hbz2⟩
              by_cases g6 : 1000000 < a.wait
              · clear hD
                have g5' : ¬ a.wait < 0 := g5
                repeat' ((fail_if_success at_builtin); (first | go_skip | go_guarded | go_step))
                refine (CA.out _ (hbw.trans (hbx.mono hbw.size))).mono ?_
                rintro e wz ⟨rfl, hbz⟩
                dsimp only
                have hbz2 := (hbw.trans (hbx.mono hbw.size)).trans (hbz.mono (hbw.trans (hbx.mono hbw.size)).size)
                repeat' ((fail_if_success at_builtin); (first | go_skip | go_guarded | go_step))
                go_ret
                exact ⟨rfl, hbz2⟩
              repeat' ((fail_if_success at_builtin); (first | go_skip | go_guarded | go_step))
              clear f0 f1 f2 f3 f4 f5 f6 f7 f8 f9 f10 f11 f12
              generalize World.alloc wr _ = w4 at *
              have hbw4 := hbw.trans (hbx.mono hbw.size)
              refine (short_any ⟨a.o.prj, 0, a.o.ref⟩ a.e.key w4 hxa.p hxa.r hxa.e.k).mono ?_
              rintro e w5 ⟨rfl, hb5⟩
              dsimp only
              have hbw5 := hbw4.trans (hb5.mono hbw4.size)
              cases hsh : shrtE ⟨a.o.prj, 0, a.o.ref⟩ a.e.key with
              | false =>
                clear hD
                repeat' ((fail_if_success at_builtin); (first | go_skip | go_guarded | go_step))
                refine (CA.out _ hbw5).mono ?_
                rintro e wz ⟨rfl, hbz⟩
                dsimp only
                have hbz2 := hbw5.trans (hbz.mono hbw5.size)
                repeat' ((fail_if_success at_builtin); (first | go_skip | go_guarded | go_step))
                go_ret
                exact ⟨rfl, hbz2⟩
              | true =>
                obtain ⟨s1, s2, s3⟩ := shrt_of hsh
                have hfx := fit_scX hsh hxa.n
                replace hsh := Lib.hid hsh
                replace hxa := Lib.hid hxa
                replace hfx := Lib.hid hfx
                have z4 : wr.heap.size < w4.heap.size := by omega
                have hD5 : CellsA w5 wr.heap.size 0 a := hD.map fun j => hb5.cell (p := ⟨wr.heap.size, 0 + j, none⟩) z4
                replace hbx : Below wr.heap.size wr w5 := hbx.trans (hb5.mono hbx.size)
                have z5 : wr.heap.size < w5.heap.size := Nat.lt_of_lt_of_le z4 hb5.size
                clear hD hb5 z4 hz hbw4
                obtain ⟨n2, hn2⟩ : ∃ n2, n2 = now + a.wait := ⟨_, rfl⟩
                have p0 := hP.n0
                have p1 := hP.n1
                have hw : IntKind.i64.wrap (now + a.wait) = n2 := by rw [IntWalk.i64_in _ (by omega), hn2]
                have q1 : now ≤ n2 := by omega
                have q2 : n2 ≤ now + 1000000 := by omega
                have q3 : I64 n2 := by unfold I64; omega
                replace hn2 := Lib.hid hn2
                have f1 := hD5 1 _ rfl
                have f2 := hD5 2 _ rfl
                have f3 := hD5 3 _ rfl
                have f4 := hD5 4 _ rfl
                have f5 := hD5 5 _ rfl
                have f6 := hD5 6 _ rfl
                have f7 := hD5 7 _ rfl
                have f8 := hD5 8 _ rfl
                have f9 := hD5 9 _ rfl
                have f10 := hD5 10 _ rfl
                have f11 := hD5 11 _ rfl
                have f12 := hD5 12 _ rfl
                simp only [Nat.zero_add] at f1 f2 f3 f4 f5 f6 f7 f8 f9 f10 f11 f12
                have hb6 : Below w5.heap.size w5 (w5.alloc (.cells (ent8 a.e) 42)) := (Below.refl _ _).alloc (Nat.le_refl _) _
                have hE : CellsE (w5.alloc (.cells (ent8 a.e) 42)) w5.heap.size 0 a.e := ⟨by simp [go_sem], by simp [go_sem], by simp [go_sem], by simp [go_sem], by simp [go_sem], by simp [go_sem], by simp [go_sem], by simp [go_sem]⟩
                have hF : ∀ j, (w5.alloc (.cells (ent8 a.e) 42)).frozen? ⟨w5.heap.size, j, none⟩ = false := fun j => by simp [go_sem]
                have hz6 : (w5.alloc (.cells (ent8 a.e) 42)).heap.size = w5.heap.size + 1 := by simp
                repeat' ((fail_if_success at_builtin); (first | go_skip | go_guarded | go_step))
                clear f1 f2 f3 f4 f5 f6 f7 f8 f9 f10 f11 f12
                generalize World.alloc w5 _ = w6 at *
                have hD6 : CellsA w6 wr.heap.size 0 a := hD5.map fun j => hb6.cell (p := ⟨wr.heap.size, 0 + j, none⟩) z5
                replace hbx : Below wr.heap.size wr w6 := hbx.trans (hb6.mono hbx.size)
                generalize w5.heap.size = b14 at *
                have z6 : b14 < w6.heap.size := by omega
                clear hD5 hb6 hbw5 hz6
                have hS : ∀ w', Below wr.heap.size wr w' → b14 < w'.heap.size → CellsA w' wr.heap.size 0 a → (Below wr.heap.size wr w' ∧ b14 < w'.heap.size ∧ CellsA w' wr.heap.size 0 a ∧ w'.cell? ⟨wr.heap.size, 2, none⟩ = some (.string a.o.prj) ∧ w'.cell? ⟨wr.heap.size, 3, none⟩ = some (.string a.o.ref) ∧ w'.cell? ⟨wr.heap.size, 4, none⟩ = some (.bool a.o.fork)) := fun w' h1 h2 h5 => ⟨h1, h2, h5, h5 2 _ rfl, h5 3 _ rfl, h5 4 _ rfl⟩
                have hS1 := hS w6.drew hbx.drew z6 (hD6.map fun _ => rfl)
                replace hE : CellsE w6.drew b14 0 a.e := hE.map fun _ => rfl
                replace hF : ∀ j, w6.drew.frozen? ⟨b14, j, none⟩ = false := hF
                have keepC : ∀ w' w'', (Below wr.heap.size wr w' ∧ b14 < w'.heap.size ∧ CellsA w' wr.heap.size 0 a ∧ w'.cell? ⟨wr.heap.size, 2, none⟩ = some (.string a.o.prj) ∧ w'.cell? ⟨wr.heap.size, 3, none⟩ = some (.string a.o.ref) ∧ w'.cell? ⟨wr.heap.size, 4, none⟩ = some (.bool a.o.fork)) → Below w'.heap.size w' w'' → (Below wr.heap.size wr w'' ∧ b14 < w''.heap.size ∧ CellsA w'' wr.heap.size 0 a ∧ w''.cell? ⟨wr.heap.size, 2, none⟩ = some (.string a.o.prj) ∧ w''.cell? ⟨wr.heap.size, 3, none⟩ = some (.string a.o.ref) ∧ w''.cell? ⟨wr.heap.size, 4, none⟩ = some (.bool a.o.fork)) := fun w' w'' h hq => hS w'' (h.1.trans (hq.mono h.1.size)) (Nat.lt_of_lt_of_le h.2.1 hq.size) (h.2.2.1.map fun j => hq.cell (p := ⟨wr.heap.size, 0 + j, none⟩) (Nat.lt_trans z5 h.2.1))
                have keepD : ∀ w' u v x, (Below wr.heap.size wr w' ∧ b14 < w'.heap.size ∧ CellsA w' wr.heap.size 0 a ∧ w'.cell? ⟨wr.heap.size, 2, none⟩ = some (.string a.o.prj) ∧ w'.cell? ⟨wr.heap.size, 3, none⟩ = some (.string a.o.ref) ∧ w'.cell? ⟨wr.heap.size, 4, none⟩ = some (.bool a.o.fork)) → (Below wr.heap.size wr (((w'.setCell ⟨b14, 0, none⟩ u).setCell ⟨b14, 1, none⟩ v).setCell ⟨b14, 2, none⟩ x) ∧ b14 < (((w'.setCell ⟨b14, 0, none⟩ u).setCell ⟨b14, 1, none⟩ v).setCell ⟨b14, 2, none⟩ x).heap.size ∧ CellsA (((w'.setCell ⟨b14, 0, none⟩ u).setCell ⟨b14, 1, none⟩ v).setCell ⟨b14, 2, none⟩ x) wr.heap.size 0 a ∧ (((w'.setCell ⟨b14, 0, none⟩ u).setCell ⟨b14, 1, none⟩ v).setCell ⟨b14, 2, none⟩ x).cell? ⟨wr.heap.size, 2, none⟩ = some (.string a.o.prj) ∧ (((w'.setCell ⟨b14, 0, none⟩ u).setCell ⟨b14, 1, none⟩ v).setCell ⟨b14, 2, none⟩ x).cell? ⟨wr.heap.size, 3, none⟩ = some (.string a.o.ref) ∧ (((w'.setCell ⟨b14, 0, none⟩ u).setCell ⟨b14, 1, none⟩ v).setCell ⟨b14, 2, none⟩ x).cell? ⟨wr.heap.size, 4, none⟩ = some (.bool a.o.fork)) := fun w' u v x h => hS _ (below3 h.1 (Nat.le_of_lt z5) u v x) (by rw [size3]; exact h.2.1) (h.2.2.1.map fun j => far3 w' (show wr.heap.size ≠ b14 by omega) (0 + j) u v x)
                replace keepD := Lib.hid keepD
                have CL := fun (w' : World) (h : Below wr.heap.size wr w') => level_any2 (hI.at h) a.o s1 s2
                have CSc := fun (w' : World) => Lv.refScope_any a.o (lvO a.o) w'
                replace hS := Lib.hid hS
                replace keepC := Lib.hid keepC
                replace CL := Lib.hid CL
                replace CSc := Lib.hid CSc
                repeat' ((fail_if_success at_builtin); (first | go_skip | go_guarded | go_step))
                refine wp_region_held_drew (S := fun w' => Below wr.heap.size wr w' ∧ b14 < w'.heap.size ∧ CellsA w' wr.heap.size 0 a ∧ w'.cell? ⟨wr.heap.size, 2, none⟩ = some (.string a.o.prj) ∧ w'.cell? ⟨wr.heap.size, 3, none⟩ = some (.string a.o.ref) ∧ w'.cell? ⟨wr.heap.size, 4, none⟩ = some (.bool a.o.fork)) (by kernel_rfl) ?_ (fun hHeld => ?_)
                · (try dsimp only)
                  exact hS1
                refine tkY 0 (v := ?v791) rfl (.inl ⟨by rfl, ?hy791⟩) ?hr791
                case hy791 => (intro w hSw; (try dsimp only at hSw); go_simp; try with_reducible rfl)
                simp only [Act.put, List.getElem_toArray, List.getElem_cons_zero, List.getElem_cons_succ, List.setIfInBounds_toArray, List.set_cons_zero, List.set_cons_succ]
                refine tkY 1 (v := ?v792) rfl (.inl ⟨by rfl, ?hy792⟩) ?hr792
                case hy792 => (intro w hSw; (try dsimp only at hSw); go_simp; try with_reducible rfl)
                simp only [Act.put, List.getElem_toArray, List.getElem_cons_zero, List.getElem_cons_succ, List.setIfInBounds_toArray, List.set_cons_zero, List.set_cons_succ]
                refine tkY 2 (v := ?v793) rfl (.inl ⟨by rfl, ?hy793⟩) ?hr793
                case hy793 => (intro w hSw; (try dsimp only at hSw); go_simp; try with_reducible rfl)
                simp only [Act.put, List.getElem_toArray, List.getElem_cons_zero, List.getElem_cons_succ, List.setIfInBounds_toArray, List.set_cons_zero, List.set_cons_succ]
                refine tkY 3 (v := ?v794) rfl (.inl ⟨by rfl, ?hy794⟩) ?hr794
                case hy794 => (intro w hSw; (try dsimp only at hSw); go_simp; try with_reducible rfl)
                simp only [Act.put, List.getElem_toArray, List.getElem_cons_zero, List.getElem_cons_succ, List.setIfInBounds_toArray, List.set_cons_zero, List.set_cons_succ]
                refine tkY 4 (v := ?v795) rfl (.inl ⟨by rfl, ?hy795⟩) ?hr795
                case hy795 => (intro w hSw; (try dsimp only at hSw); go_simp; try with_reducible rfl)
                simp only [Act.put, List.getElem_toArray, List.getElem_cons_zero, List.getElem_cons_succ, List.setIfInBounds_toArray, List.set_cons_zero, List.set_cons_succ]
                refine wpAnyH_ready (rs := [5]) (by kernel_rfl) (by simp) ?_
                refine AllReadyH.cons rfl (fun K hK => ?_) AllReadyH.nil
                go_simp
                go_at_call 31
                refine (CL.out _ hHeld.1).mono ?_
                rintro e w7 ⟨rfl, hbq⟩
                dsimp only
                replace hE := hE.map fun j => hbq.cell (p := ⟨b14, 0 + j, none⟩) hHeld.2.1
                replace hF := fun j => (hbq.frozen (p := ⟨b14, j, none⟩) hHeld.2.1).trans (hF j)
                refine hK.out _ _ ?_ (fun hHeld => ?_)
                · (try dsimp only)
                  first | exact keepC.out _ _ hHeld hbq | exact keepD.out _ _ _ _ hHeld
                clear hK K
                try simp only [Act.put, List.getElem_toArray, List.getElem_cons_zero, List.getElem_cons_succ, List.setIfInBounds_toArray, List.set_cons_zero, List.set_cons_succ]
                refine wpAnyH_ready (rs := [6]) (by kernel_rfl) (by simp) ?_
                refine AllReadyH.cons rfl (fun K hK => ?_) AllReadyH.nil
                go_simp
                go_at_call 30
                refine (CSc.out _).mono ?_
                rintro e w8 ⟨rfl, hbq⟩
                dsimp only
                replace hE := hE.map fun j => hbq.cell (p := ⟨b14, 0 + j, none⟩) hHeld.2.1
                replace hF := fun j => (hbq.frozen (p := ⟨b14, j, none⟩) hHeld.2.1).trans (hF j)
                have e0 := hE.c0
                have e1 := hE.c1
                have e2 := hE.c2
                simp only [Nat.zero_add] at e1 e2
                refine hK.out _ _ ?_ (fun hHeld => ?_)
                · (try dsimp only)
                  first | exact keepC.out _ _ hHeld hbq | exact keepD.out _ _ _ _ hHeld
                clear hK K
                try simp only [Act.put, List.getElem_toArray, List.getElem_cons_zero, List.getElem_cons_succ, List.setIfInBounds_toArray, List.set_cons_zero, List.set_cons_succ]
                refine tkY 7 (v := ?v796) rfl (.inl ⟨by rfl, ?hy796⟩) ?hr796
                case hy796 => (intro w hSw; (try dsimp only at hSw); go_simp; try with_reducible rfl)
                simp only [Act.put, List.getElem_toArray, List.getElem_cons_zero, List.getElem_cons_succ, List.setIfInBounds_toArray, List.set_cons_zero, List.set_cons_succ]
                refine wpAnyH_ready (rs := [8]) (by kernel_rfl) (by simp) ?_
                refine AllReadyH.cons rfl (fun K hK => ?_) AllReadyH.nil
                go_simp
                refine hK.out _ _ ?_ (fun hHeld => ?_)
                · (try dsimp only)
                  first | exact keepC.out _ _ hHeld hbq | exact keepD.out _ _ _ _ hHeld
                clear hK K
                try simp only [Act.put, List.getElem_toArray, List.getElem_cons_zero, List.getElem_cons_succ, List.setIfInBounds_toArray, List.set_cons_zero, List.set_cons_succ]
                refine wpAnyH_done (by kernel_rfl) ?_ _
                have hE9 := set3_cells hE (scpS a.o (lvO a.o))
                generalize hw9 : World.setCell (World.setCell (World.setCell w8 _ _) _ _) _ _ = w9
                have hbx9 : Below wr.heap.size wr w9 := by rw [← hw9]; exact hHeld.1
                have hD9 : CellsA w9 wr.heap.size 0 a := by rw [← hw9]; exact hHeld.2.2.1
                have z9 : b14 < w9.heap.size := by rw [← hw9]; exact hHeld.2.1
                replace hE9 : CellsE w9 b14 0 (scX a) := by rw [← hw9]; exact hE9
                clear hw9 hHeld hE hF hS1 hS keepC keepD CL CSc e0 e1 e2 hbq hbx hD6 z6
                have hI9 := hI.at hbx9
                have hnl : n ≤ 25 := by have := hI.x.len; have := hP.len; omega
                have k0 := hI9.x.c0
                have k1 := hI9.x.c1
                obtain ⟨e0, e1, e2, e3, e4, e5, e6, e7⟩ := hE9
                have hE9 : CellsE w9 b14 0 (scX a) := ⟨e0, e1, e2, e3, e4, e5, e6, e7⟩
                simp only [Nat.zero_add] at e1 e2 e3 e4 e5 e6 e7
                repeat' ((fail_if_success at_builtin); (first | go_skip | go_guarded | go_step))
                refine (touch_any 100 l (scX a).sc (scX a).key n2 A n c w9 (hR.below hI9.x.below) hI9.x.len hI9.x.seq (by omega) hP.fit).mono ?_
                rintro e w10 ⟨A1, n1, c1, rfl, hn1, hs1, hb10⟩
                dsimp only
                have hbw10 := hI9.x.below.trans (hb10.mono hI9.x.below.size)
                have hN := CAx.fresh (w := w) (c := c1) hbw10 100 hn1 hs1
                have hJ : JInv w wr (w10.alloc (.cells #[.int .i64 100, .slice A1 n1 c1] 24)) a b14 w10.heap.size A1 n1 c1 (touchL 100 l (scX a).sc (scX a).key n2) :=
                  ⟨(hbx9.trans (hb10.mono hbx9.size)).alloc (Nat.le_trans hbx9.size hb10.size) _, z5, Nat.lt_of_lt_of_le z9 hb10.size, hD9.map fun j => (World.cell?_alloc_lt w10 _ ⟨wr.heap.size, 0 + j, none⟩ (Nat.lt_of_lt_of_le (Nat.lt_trans z5 z9) hb10.size)).trans (hb10.cell (p := ⟨wr.heap.size, 0 + j, none⟩) (Nat.lt_trans z5 z9)), hE9.map fun j => (World.cell?_alloc_lt w10 _ ⟨b14, 0 + j, none⟩ (Nat.lt_of_lt_of_le z9 hb10.size)).trans (hb10.cell (p := ⟨b14, 0 + j, none⟩) z9), hN⟩
                clear k0 k1 e0 e1 e2 e3 e4 e5 e6 e7 hE9 hD9 hN hI9 hn1 hs1 hbw10 hb10 hbx9 z9
                go_upto_region 16 with (fail)
                generalize hw11 : World.alloc w10 _ = w11
                replace hJ : JInv w wr w11 a b14 w10.heap.size A1 n1 c1 (touchL 100 l (scX a).sc (scX a).key n2) := by rw [← hw11]; exact hJ
                clear hw11
                generalize w10.heap.size = b15 at *
                have f0 := hJ.d 0 _ rfl
                simp only [Nat.zero_add] at f0
                go_upto_if 106 with (fail)
                clear f0
                go_cut [16] (fun u16 wx => ∃ (A1 : Option Addr) (n1 c1 : Nat) (next : List Ent) (er : Int), u16 = .int .i64 er ∧ JInv w wr wx a b14 b15 A1 n1 c1 next ∧ NextOk i l (scX a) a.touch next er)
                case first => as_aux_lemma =>
                  cases ht : a.touch with
                  | true =>
                    repeat' ((fail_if_success at_builtin); (first | go_skip | go_guarded | go_step))
                    go_meet
                    case rel => exact ⟨A1, n1, c1, _, 0, rfl, hJ, next_touch hP n2 q3 _ _⟩
                  | false =>
                    have hI9 := hI.at hJ.bx
                    have k0 := hI9.x.c0
                    have k1 := hI9.x.c1
                    obtain ⟨e0, e1, e2, e3, e4, e5, e6, e7⟩ := hJ.e
                    simp only [Nat.zero_add] at e1 e2 e3 e4 e5 e6 e7
                    repeat' ((fail_if_success at_builtin); (first | go_skip | go_guarded | go_step))
                    refine (save_any 100 l (scX a) n2 A n c w11 (hR.below hI9.x.below) hI9.x.len hI9.x.seq (by omega) hP.fit hfx.out).mono ?_
                    rintro e w12 ⟨A3, n3, c3, rfl, hn3, hs3, hb12⟩
                    dsimp only
                    have hJ2 := hJ.at hb12
                    have d0 := hJ2.nx.c0
                    have d1 := hJ2.nx.c1
                    have df := hJ2.nx.fr
                    have hJ3 := hJ2.put (c2 := c3) hn3 hs3
                    clear k0 k1 e0 e1 e2 e3 e4 e5 e6 e7 hJ hJ2 hI9 hn3 hs3 hb12
                    repeat' ((fail_if_success at_builtin); (first | go_skip | go_guarded | go_step))
                    go_meet
                    case rel => exact ⟨A3, n3, c3, _, _, rfl, hJ3, by rw [ht]; exact next_save hP n2 q3 hfx.out⟩
                case rest => as_aux_lemma =>
                  clear hJ
                  obtain ⟨A1, n1, c1, next, er, rfl, hJ, hNx⟩ := hcut
                  have hn1 : n1 ≤ 26 := by have := hJ.nx.len; have := hNx.len; omega
                  have hv0 := errV_ok hNx.v
                  go_upto_region 18 with (fail)
                  go_cut [126] (fun u126 wx => u126 = .bool false ∧ JInv w wr wx a b14 b15 A1 n1 c1 next)
                  case first => as_aux_lemma =>
                    have d0 := hJ.nx.c0
                    have d1 := hJ.nx.c1
                    have CV := valid_any 100 next A1 n1 c1 _ (hR.below hJ.nx.below) hJ.nx.len hJ.nx.seq (by omega) hNx.fit
                    rw [hv0] at CV
                    replace CV := Lib.hid CV
                    replace hv0 := Lib.hid hv0
                    by_cases her : er = 0
                    · subst her
                      repeat' ((fail_if_success at_builtin); (first | go_skip | go_guarded | go_step))
                      refine CV.out.mono ?_
                      rintro e w13 ⟨rfl, hb13⟩
                      dsimp only
                      have hJ2 := hJ.at hb13
                      clear d0 d1 hJ
                      repeat' ((fail_if_success at_builtin); (first | go_skip | go_guarded | go_step))
                      go_meet
                      case rel => exact ⟨rfl, hJ2⟩
                    · have her2 : (er == 0) = false := by simpa using her
                      repeat' ((fail_if_success at_builtin); (first | go_skip | go_guarded | go_step))
                      refine CV.out.mono ?_
                      rintro e w13 ⟨rfl, hb13⟩
                      dsimp only
                      have hJ2 := hJ.at hb13
                      clear d0 d1 hJ
                      have d0 := hJ2.nx.c0
                      have d1 := hJ2.nx.c1
                      have hI9 := hI.at hJ2.bx
                      have k0 := hI9.x.c0
                      have k1 := hI9.x.c1
                      have CM := same_any 100 100 next l A1 A n1 n c1 c _ hJ2.nx.len hJ2.nx.seq hI9.x.len hI9.x.seq (by omega) (by omega)
                      rw [hNx.same her, beq_self_eq_true, Bool.true_and, sameL_self] at CM
                      replace CM := Lib.hid CM
                      clear hI9
                      repeat' ((fail_if_success at_builtin); (first | go_skip | go_guarded | go_step))
                      refine CM.out.mono ?_
                      rintro e w14 ⟨rfl, hb14⟩
                      dsimp only
                      have hJ3 := hJ2.at hb14
                      clear d0 d1 k0 k1 hJ2
                      repeat' ((fail_if_success at_builtin); (first | go_skip | go_guarded | go_step))
                      go_meet
                      case rel => exact ⟨rfl, hJ3⟩
                  case rest => as_aux_lemma =>
                    clear hJ
                    obtain ⟨rfl, hJ⟩ := hcut
                    replace hv0 := Lib.hid hv0
                    have hs3' : (scX a).key.size ≤ 600 := s3
                    repeat' ((fail_if_success at_builtin); (first | go_skip | go_guarded | go_step))
                    obtain ⟨wo, hwo⟩ : ∃ wo, wo = wr := ⟨wr, rfl⟩
                    subst hwo
                    go_loopw [17] (fun u17 wr => ∃ k : Nat, k ≤ n1 ∧ u17 = .int .i64 (k : Int) ∧ JInv w wo wr a b14 b15 A1 n1 c1 next) (fun u17 _ => n1 - (intOf u17).toNat)
                    case atStart => exact ⟨0, by omega, rfl, hJ⟩
                    case round => as_aux_lemma =>
                      clear hJ
                      obtain ⟨k, hk1, rfl, hJ⟩ := hrel
                      have d0 := hJ.nx.c0
                      have d1 := hJ.nx.c1
                      have hI9 := hI.at hJ.bx
                      have k0 := hI9.x.c0
                      have k1 := hI9.x.c1
                      have kf := hI9.x.fr
                      by_cases hlk : k < n1
                      · have j0 : (0 : Int) ≤ (k : Int) := by omega
                        have j1 : (k : Int) < (n1 : Int) := by omega
                        have j2 : IntKind.i64.wrap ((k : Int) + 1) = (k : Int) + 1 := IntWalk.i64_in _ (by omega)
                        have hlen := hJ.nx.len
                        obtain ⟨y, hy⟩ : ∃ y, next[k]? = some y := ⟨_, List.getElem?_eq_getElem (by omega)⟩
                        obtain ⟨by', oy, hA1, hby, hcy⟩ := ent_at hJ.nx.seq hlen hy
                        obtain ⟨y0, y1, y2, y3, y4, y5, y6, y7⟩ := hcy
                        have hba : Below wr.heap.size wr (wr.alloc (.cells (ent8 y) 42)) := (Below.refl _ _).alloc (Nat.le_refl _) _
                        have hY : CellsE (wr.alloc (.cells (ent8 y) 42)) wr.heap.size 0 y := ⟨by simp [go_sem], by simp [go_sem], by simp [go_sem], by simp [go_sem], by simp [go_sem], by simp [go_sem], by simp [go_sem], by simp [go_sem]⟩
                        have hz : wr.heap.size < (wr.alloc (.cells (ent8 y) 42)).heap.size := by simp
                        have hst := hNx.step k y hy
                        subst hA1
                        replace hlen := Lib.hid hlen
                        replace hy := Lib.hid hy
                        replace hst := Lib.hid hst
                        go_upto_region 24 with (fail)
                        clear d0 d1 k0 k1 kf y0 y1 y2 y3 y4 y5 y6 y7 hby
                        generalize hw14 : World.alloc wr _ = w14
                        replace hba : Below wr.heap.size wr w14 := by rw [← hw14]; exact hba
                        replace hY : CellsE w14 wr.heap.size 0 y := by rw [← hw14]; exact hY
                        replace hz : wr.heap.size < w14.heap.size := by rw [← hw14]; exact hz
                        clear hw14
                        replace hJ := hJ.at hba
                        replace hI9 := hI.at hJ.bx
                        generalize wr.heap.size = b18 at *
                        clear hba
                        have k0 := hI9.x.c0
                        have k1 := hI9.x.c1
                        obtain ⟨y0, y1, y2, y3, y4, y5, y6, y7⟩ := hY
                        have hY : CellsE w14 b18 0 y := ⟨y0, y1, y2, y3, y4, y5, y6, y7⟩
                        simp only [Nat.zero_add] at y1 y2 y3 y4 y5 y6 y7
                        repeat' ((fail_if_success at_builtin); (first | go_skip | go_guarded | go_step))
                        refine (refFind_any y.sc y.key l A n c w14 hI9.x.len hI9.x.seq (by omega)).mono ?_
                        rintro e w15 ⟨rfl, hb15⟩
                        dsimp only
                        replace hJ := hJ.at hb15
                        replace hI9 := hI.at hJ.bx
                        replace hY : CellsE w15 b18 0 y := hY.map fun j => hb15.cell (p := ⟨b18, 0 + j, none⟩) hz
                        replace hz := Nat.lt_of_lt_of_le hz hb15.size
                        clear k0 k1 y0 y1 y2 y3 y4 y5 y6 y7 hb15
                        have k0 := hI9.x.c0
                        have k1 := hI9.x.c1
                        have d0 := hJ.nx.c0
                        have d1 := hJ.nx.c1
                        obtain ⟨y0, y1, y2, y3, y4, y5, y6, y7⟩ := hY
                        simp only [Nat.zero_add] at y1 y2 y3 y4 y5 y6 y7
                        obtain ⟨x0, x1, x2, x3, x4, x5, x6, x7⟩ := hJ.e
                        simp only [Nat.zero_add] at x1 x2 x3 x4 x5 x6 x7
                        have f0 := hJ.d 0 _ rfl
                        simp only [Nat.zero_add] at f0
                        rcases hst.out with ⟨hf, ht, hkl, hsc, hdg⟩ | ⟨m2, v, hf, hv, hdg, hcr, hus⟩
                        · rw [hf]
                          rw [hsc] at y0 y1 y2
                          rw [hdg] at y4
                          rw [ht] at f0
                          have hwk : IntKind.i64.wrap ((n1 : Int) - 1) = (k : Int) := by rw [IntWalk.i64_in _ (by omega)]; have := hlen.out; omega
                          replace hf := Lib.hid hf
                          replace hkl := Lib.hid hkl
                          replace hsc := Lib.hid hsc
                          replace hdg := Lib.hid hdg
                          replace ht := Lib.hid ht
                          clear hst
                          repeat' ((fail_if_success at_builtin); (first | go_skip | go_guarded | go_step))
                          have hS1 : Below w15.heap.size w15 w15.drew := (Below.refl _ _).drew
                          refine wp_region_held_drew (S := fun w' => Below w15.heap.size w15 w') (by kernel_rfl) ?_ (fun hHeld => ?_)
                          · (try dsimp only)
                            exact hS1
                          refine tkY 0 (v := ?v797) rfl (.inl ⟨by rfl, ?hy797⟩) ?hr797
                          case hy797 => (intro w hSw; (try dsimp only at hSw); go_simp; try with_reducible rfl)
                          simp only [Act.put, List.getElem_toArray, List.getElem_cons_zero, List.getElem_cons_succ, List.setIfInBounds_toArray, List.set_cons_zero, List.set_cons_succ]
                          refine tkY 1 (v := ?v798) rfl (.inl ⟨by rfl, ?hy798⟩) ?hr798
                          case hy798 => (intro w hSw; (try dsimp only at hSw); go_simp; try with_reducible rfl)
                          simp only [Act.put, List.getElem_toArray, List.getElem_cons_zero, List.getElem_cons_succ, List.setIfInBounds_toArray, List.set_cons_zero, List.set_cons_succ]
                          refine tkY 2 (v := ?v799) rfl (.inl ⟨by rfl, ?hy799⟩) ?hr799
                          case hy799 => (intro w hSw; (try dsimp only at hSw); go_simp; try with_reducible rfl)
                          simp only [Act.put, List.getElem_toArray, List.getElem_cons_zero, List.getElem_cons_succ, List.setIfInBounds_toArray, List.set_cons_zero, List.set_cons_succ]
                          refine tkN 3 rfl ?_
                          simp only [Act.put, List.getElem_toArray, List.getElem_cons_zero, List.getElem_cons_succ, List.setIfInBounds_toArray, List.set_cons_zero, List.set_cons_succ]
                          refine tkN 4 rfl ?_
                          simp only [Act.put, List.getElem_toArray, List.getElem_cons_zero, List.getElem_cons_succ, List.setIfInBounds_toArray, List.set_cons_zero, List.set_cons_succ]
                          refine tkN 5 rfl ?_
                          simp only [Act.put, List.getElem_toArray, List.getElem_cons_zero, List.getElem_cons_succ, List.setIfInBounds_toArray, List.set_cons_zero, List.set_cons_succ]
                          refine tkN 6 rfl ?_
                          simp only [Act.put, List.getElem_toArray, List.getElem_cons_zero, List.getElem_cons_succ, List.setIfInBounds_toArray, List.set_cons_zero, List.set_cons_succ]
                          refine tkN 7 rfl ?_
                          simp only [Act.put, List.getElem_toArray, List.getElem_cons_zero, List.getElem_cons_succ, List.setIfInBounds_toArray, List.set_cons_zero, List.set_cons_succ]
                          refine tkN 8 rfl ?_
                          simp only [Act.put, List.getElem_toArray, List.getElem_cons_zero, List.getElem_cons_succ, List.setIfInBounds_toArray, List.set_cons_zero, List.set_cons_succ]
                          refine tkN 9 rfl ?_
                          simp only [Act.put, List.getElem_toArray, List.getElem_cons_zero, List.getElem_cons_succ, List.setIfInBounds_toArray, List.set_cons_zero, List.set_cons_succ]
                          refine tkN 10 rfl ?_
                          simp only [Act.put, List.getElem_toArray, List.getElem_cons_zero, List.getElem_cons_succ, List.setIfInBounds_toArray, List.set_cons_zero, List.set_cons_succ]
                          refine tkN 11 rfl ?_
                          simp only [Act.put, List.getElem_toArray, List.getElem_cons_zero, List.getElem_cons_succ, List.setIfInBounds_toArray, List.set_cons_zero, List.set_cons_succ]
                          refine tkN 12 rfl ?_
                          simp only [Act.put, List.getElem_toArray, List.getElem_cons_zero, List.getElem_cons_succ, List.setIfInBounds_toArray, List.set_cons_zero, List.set_cons_succ]
                          refine tkN 13 rfl ?_
                          simp only [Act.put, List.getElem_toArray, List.getElem_cons_zero, List.getElem_cons_succ, List.setIfInBounds_toArray, List.set_cons_zero, List.set_cons_succ]
                          refine tkN 14 rfl ?_
                          simp only [Act.put, List.getElem_toArray, List.getElem_cons_zero, List.getElem_cons_succ, List.setIfInBounds_toArray, List.set_cons_zero, List.set_cons_succ]
                          refine tkN 15 rfl ?_
                          simp only [Act.put, List.getElem_toArray, List.getElem_cons_zero, List.getElem_cons_succ, List.setIfInBounds_toArray, List.set_cons_zero, List.set_cons_succ]
                          refine tkN 16 rfl ?_
                          simp only [Act.put, List.getElem_toArray, List.getElem_cons_zero, List.getElem_cons_succ, List.setIfInBounds_toArray, List.set_cons_zero, List.set_cons_succ]
                          refine tkN 17 rfl ?_
                          simp only [Act.put, List.getElem_toArray, List.getElem_cons_zero, List.getElem_cons_succ, List.setIfInBounds_toArray, List.set_cons_zero, List.set_cons_succ]
                          refine tkN 18 rfl ?_
                          simp only [Act.put, List.getElem_toArray, List.getElem_cons_zero, List.getElem_cons_succ, List.setIfInBounds_toArray, List.set_cons_zero, List.set_cons_succ]
                          refine tkN 19 rfl ?_
                          simp only [Act.put, List.getElem_toArray, List.getElem_cons_zero, List.getElem_cons_succ, List.setIfInBounds_toArray, List.set_cons_zero, List.set_cons_succ]
                          refine tkN 20 rfl ?_
                          simp only [Act.put, List.getElem_toArray, List.getElem_cons_zero, List.getElem_cons_succ, List.setIfInBounds_toArray, List.set_cons_zero, List.set_cons_succ]
                          refine tkN 21 rfl ?_
                          simp only [Act.put, List.getElem_toArray, List.getElem_cons_zero, List.getElem_cons_succ, List.setIfInBounds_toArray, List.set_cons_zero, List.set_cons_succ]
                          refine tkN 22 rfl ?_
                          simp only [Act.put, List.getElem_toArray, List.getElem_cons_zero, List.getElem_cons_succ, List.setIfInBounds_toArray, List.set_cons_zero, List.set_cons_succ]
                          refine tkN 23 rfl ?_
                          simp only [Act.put, List.getElem_toArray, List.getElem_cons_zero, List.getElem_cons_succ, List.setIfInBounds_toArray, List.set_cons_zero, List.set_cons_succ]
                          refine tkN 24 rfl ?_
                          simp only [Act.put, List.getElem_toArray, List.getElem_cons_zero, List.getElem_cons_succ, List.setIfInBounds_toArray, List.set_cons_zero, List.set_cons_succ]
                          refine tkN 25 rfl ?_
                          simp only [Act.put, List.getElem_toArray, List.getElem_cons_zero, List.getElem_cons_succ, List.setIfInBounds_toArray, List.set_cons_zero, List.set_cons_succ]
                          refine tkN 26 rfl ?_
                          simp only [Act.put, List.getElem_toArray, List.getElem_cons_zero, List.getElem_cons_succ, List.setIfInBounds_toArray, List.set_cons_zero, List.set_cons_succ]
                          refine tkN 27 rfl ?_
                          simp only [Act.put, List.getElem_toArray, List.getElem_cons_zero, List.getElem_cons_succ, List.setIfInBounds_toArray, List.set_cons_zero, List.set_cons_succ]
                          refine tkN 28 rfl ?_
                          simp only [Act.put, List.getElem_toArray, List.getElem_cons_zero, List.getElem_cons_succ, List.setIfInBounds_toArray, List.set_cons_zero, List.set_cons_succ]
                          refine tkN 29 rfl ?_
                          simp only [Act.put, List.getElem_toArray, List.getElem_cons_zero, List.getElem_cons_succ, List.setIfInBounds_toArray, List.set_cons_zero, List.set_cons_succ]
                          refine tkN 30 rfl ?_
                          simp only [Act.put, List.getElem_toArray, List.getElem_cons_zero, List.getElem_cons_succ, List.setIfInBounds_toArray, List.set_cons_zero, List.set_cons_succ]
                          refine tkN 31 rfl ?_
                          simp only [Act.put, List.getElem_toArray, List.getElem_cons_zero, List.getElem_cons_succ, List.setIfInBounds_toArray, List.set_cons_zero, List.set_cons_succ]
                          refine tkN 32 rfl ?_
                          simp only [Act.put, List.getElem_toArray, List.getElem_cons_zero, List.getElem_cons_succ, List.setIfInBounds_toArray, List.set_cons_zero, List.set_cons_succ]
                          refine tkN 33 rfl ?_
                          simp only [Act.put, List.getElem_toArray, List.getElem_cons_zero, List.getElem_cons_succ, List.setIfInBounds_toArray, List.set_cons_zero, List.set_cons_succ]
                          refine tkY 34 (v := ?v800) rfl (.inl ⟨by rfl, ?hy800⟩) ?hr800
                          case hy800 => (intro w hSw; (try dsimp only at hSw); go_simp; try with_reducible rfl)
                          simp only [Act.put, List.getElem_toArray, List.getElem_cons_zero, List.getElem_cons_succ, List.setIfInBounds_toArray, List.set_cons_zero, List.set_cons_succ]
                          refine wpAnyH_done (by kernel_rfl) ?_ _
                          have hbq := hHeld
                          repeat' ((fail_if_success at_builtin); (first | go_skip | go_guarded | go_step))
                          go_roundw
                          case rel => exact ⟨k + 1, by omega, by go_num, hJ.at hbq⟩
                          case measure => simp [intOf]; omega
                        · rw [hf]
                          obtain ⟨bv', ov, hA, hbv, hcv⟩ := ent_at hI9.x.seq hI9.x.len hv
                          subst hA
                          obtain ⟨v0, v1, v2, v3, v4, v5, v6, v7⟩ := hcv
                          rw [hdg] at y4
                          rw [hcr] at y6
                          have m0 : (0 : Int) ≤ (m2 : Int) := by omega
                          have m1 : (m2 : Int) < (n : Int) := by have := (List.getElem?_eq_some_iff.1 hv).1; have := hI9.x.len; omega
                          have m3 : ¬ ((m2 : Int) < 0) := by omega
                          have m4 : ¬ (y.used < v.used) := by omega
                          replace hf := Lib.hid hf
                          replace hv := Lib.hid hv
                          replace hdg := Lib.hid hdg
                          replace hcr := Lib.hid hcr
                          clear hst x0 x1 x2 x3 x4 x5 x6 x7 f0
                          repeat' ((fail_if_success at_builtin); (first | go_skip | go_guarded | go_step))
                          have hS1 : Below w15.heap.size w15 w15.drew ∧ w15.drew.cell? ⟨b7, 1, none⟩ = some (.slice (some ⟨bv', ov, none⟩) n c) ∧ w15.drew.cell? ⟨b18, 4, none⟩ = some (.int .u64 v.dig) ∧ w15.drew.cell? ⟨b18, 6, none⟩ = some (.int .i64 v.created) ∧ w15.drew.cell? ⟨b18, 7, none⟩ = some (.int .i64 y.used) ∧ w15.drew.cell? ⟨bv', ov + m2 * 8 + 4, none⟩ = some (.int .u64 v.dig) ∧ w15.drew.cell? ⟨bv', ov + m2 * 8 + 6, none⟩ = some (.int .i64 v.created) ∧ w15.drew.cell? ⟨bv', ov + m2 * 8 + 7, none⟩ = some (.int .i64 v.used) := ⟨(Below.refl _ _).drew, k1, y4, y6, y7, v4, v6, v7⟩
                          refine wp_region_held_drew (S := fun w' => Below w15.heap.size w15 w' ∧ w'.cell? ⟨b7, 1, none⟩ = some (.slice (some ⟨bv', ov, none⟩) n c) ∧ w'.cell? ⟨b18, 4, none⟩ = some (.int .u64 v.dig) ∧ w'.cell? ⟨b18, 6, none⟩ = some (.int .i64 v.created) ∧ w'.cell? ⟨b18, 7, none⟩ = some (.int .i64 y.used) ∧ w'.cell? ⟨bv', ov + m2 * 8 + 4, none⟩ = some (.int .u64 v.dig) ∧ w'.cell? ⟨bv', ov + m2 * 8 + 6, none⟩ = some (.int .i64 v.created) ∧ w'.cell? ⟨bv', ov + m2 * 8 + 7, none⟩ = some (.int .i64 v.used)) (by kernel_rfl) ?_ (fun hHeld => ?_)
                          · (try dsimp only)
                            exact hS1
                          refine tkY 0 (v := ?v801) rfl (.inl ⟨by rfl, ?hy801⟩) ?hr801
                          case hy801 => (intro w hSw; (try dsimp only at hSw); go_simp; try with_reducible rfl)
                          simp only [Act.put, List.getElem_toArray, List.getElem_cons_zero, List.getElem_cons_succ, List.setIfInBounds_toArray, List.set_cons_zero, List.set_cons_succ]
                          refine tkY 1 (v := ?v802) rfl (.inl ⟨by rfl, ?hy802⟩) ?hr802
                          case hy802 => (intro w hSw; (try dsimp only at hSw); go_simp; try with_reducible rfl)
                          simp only [Act.put, List.getElem_toArray, List.getElem_cons_zero, List.getElem_cons_succ, List.setIfInBounds_toArray, List.set_cons_zero, List.set_cons_succ]
                          refine tkY 2 (v := ?v803) rfl (.inl ⟨by rfl, ?hy803⟩) ?hr803
                          case hy803 => (intro w hSw; (try dsimp only at hSw); go_simp; try with_reducible rfl)
                          simp only [Act.put, List.getElem_toArray, List.getElem_cons_zero, List.getElem_cons_succ, List.setIfInBounds_toArray, List.set_cons_zero, List.set_cons_succ]
                          refine tkY 3 (v := ?v804) rfl (.inl ⟨by rfl, ?hy804⟩) ?hr804
                          case hy804 => (intro w hSw; (try dsimp only at hSw); go_simp; try with_reducible rfl)
                          simp only [Act.put, List.getElem_toArray, List.getElem_cons_zero, List.getElem_cons_succ, List.setIfInBounds_toArray, List.set_cons_zero, List.set_cons_succ]
                          refine tkY 4 (v := ?v805) rfl (.inl ⟨by rfl, ?hy805⟩) ?hr805
                          case hy805 => (intro w hSw; (try dsimp only at hSw); go_simp; try with_reducible rfl)
                          simp only [Act.put, List.getElem_toArray, List.getElem_cons_zero, List.getElem_cons_succ, List.setIfInBounds_toArray, List.set_cons_zero, List.set_cons_succ]
                          refine tkY 5 (v := ?v806) rfl (.inl ⟨by rfl, ?hy806⟩) ?hr806
                          case hy806 => (intro w hSw; (try dsimp only at hSw); go_simp; try with_reducible rfl)
                          simp only [Act.put, List.getElem_toArray, List.getElem_cons_zero, List.getElem_cons_succ, List.setIfInBounds_toArray, List.set_cons_zero, List.set_cons_succ]
                          refine tkY 6 (v := ?v807) rfl (.inl ⟨by rfl, ?hy807⟩) ?hr807
                          case hy807 => (intro w hSw; (try dsimp only at hSw); go_simp; try with_reducible rfl)
                          simp only [Act.put, List.getElem_toArray, List.getElem_cons_zero, List.getElem_cons_succ, List.setIfInBounds_toArray, List.set_cons_zero, List.set_cons_succ]
                          refine tkY 7 (v := ?v808) rfl (.inl ⟨by rfl, ?hy808⟩) ?hr808
                          case hy808 => (intro w hSw; (try dsimp only at hSw); go_simp; try with_reducible rfl)
                          simp only [Act.put, List.getElem_toArray, List.getElem_cons_zero, List.getElem_cons_succ, List.setIfInBounds_toArray, List.set_cons_zero, List.set_cons_succ]
                          refine tkY 8 (v := ?v809) rfl (.inl ⟨by rfl, ?hy809⟩) ?hr809
                          case hy809 => (intro w hSw; (try dsimp only at hSw); go_simp; try with_reducible rfl)
                          simp only [Act.put, List.getElem_toArray, List.getElem_cons_zero, List.getElem_cons_succ, List.setIfInBounds_toArray, List.set_cons_zero, List.set_cons_succ]
                          refine tkY 9 (v := ?v810) rfl (.inl ⟨by rfl, ?hy810⟩) ?hr810
                          case hy810 => (intro w hSw; (try dsimp only at hSw); go_simp; try with_reducible rfl)
                          simp only [Act.put, List.getElem_toArray, List.getElem_cons_zero, List.getElem_cons_succ, List.setIfInBounds_toArray, List.set_cons_zero, List.set_cons_succ]
                          refine tkY 10 (v := ?v811) rfl (.inl ⟨by rfl, ?hy811⟩) ?hr811
                          case hy811 => (intro w hSw; (try dsimp only at hSw); go_simp; try with_reducible rfl)
                          simp only [Act.put, List.getElem_toArray, List.getElem_cons_zero, List.getElem_cons_succ, List.setIfInBounds_toArray, List.set_cons_zero, List.set_cons_succ]
                          refine tkY 11 (v := ?v812) rfl (.inl ⟨by rfl, ?hy812⟩) ?hr812
                          case hy812 => (intro w hSw; (try dsimp only at hSw); go_simp; try with_reducible rfl)
                          simp only [Act.put, List.getElem_toArray, List.getElem_cons_zero, List.getElem_cons_succ, List.setIfInBounds_toArray, List.set_cons_zero, List.set_cons_succ]
                          refine tkY 12 (v := ?v813) rfl (.inl ⟨by rfl, ?hy813⟩) ?hr813
                          case hy813 => (intro w hSw; (try dsimp only at hSw); go_simp; try with_reducible rfl)
                          simp only [Act.put, List.getElem_toArray, List.getElem_cons_zero, List.getElem_cons_succ, List.setIfInBounds_toArray, List.set_cons_zero, List.set_cons_succ]
                          refine tkY 13 (v := ?v814) rfl (.inl ⟨by rfl, ?hy814⟩) ?hr814
                          case hy814 => (intro w hSw; (try dsimp only at hSw); go_simp; try with_reducible rfl)
                          simp only [Act.put, List.getElem_toArray, List.getElem_cons_zero, List.getElem_cons_succ, List.setIfInBounds_toArray, List.set_cons_zero, List.set_cons_succ]
                          refine tkY 14 (v := ?v815) rfl (.inl ⟨by rfl, ?hy815⟩) ?hr815
                          case hy815 => (intro w hSw; (try dsimp only at hSw); go_simp; try with_reducible rfl)
                          simp only [Act.put, List.getElem_toArray, List.getElem_cons_zero, List.getElem_cons_succ, List.setIfInBounds_toArray, List.set_cons_zero, List.set_cons_succ]
                          refine tkY 15 (v := ?v816) rfl (.inl ⟨by rfl, ?hy816⟩) ?hr816
                          case hy816 => (intro w hSw; (try dsimp only at hSw); go_simp; try with_reducible rfl)
                          simp only [Act.put, List.getElem_toArray, List.getElem_cons_zero, List.getElem_cons_succ, List.setIfInBounds_toArray, List.set_cons_zero, List.set_cons_succ]
                          refine tkY 16 (v := ?v817) rfl (.inl ⟨by rfl, ?hy817⟩) ?hr817
                          case hy817 => (intro w hSw; (try dsimp only at hSw); go_simp; try with_reducible rfl)
                          simp only [Act.put, List.getElem_toArray, List.getElem_cons_zero, List.getElem_cons_succ, List.setIfInBounds_toArray, List.set_cons_zero, List.set_cons_succ]
                          refine tkY 17 (v := ?v818) rfl (.inl ⟨by rfl, ?hy818⟩) ?hr818
                          case hy818 => (intro w hSw; (try dsimp only at hSw); go_simp; try with_reducible rfl)
                          simp only [Act.put, List.getElem_toArray, List.getElem_cons_zero, List.getElem_cons_succ, List.setIfInBounds_toArray, List.set_cons_zero, List.set_cons_succ]
                          refine tkY 18 (v := ?v819) rfl (.inl ⟨by rfl, ?hy819⟩) ?hr819
                          case hy819 => (intro w hSw; (try dsimp only at hSw); go_simp; try with_reducible rfl)
                          simp only [Act.put, List.getElem_toArray, List.getElem_cons_zero, List.getElem_cons_succ, List.setIfInBounds_toArray, List.set_cons_zero, List.set_cons_succ]
                          refine tkY 19 (v := ?v820) rfl (.inl ⟨by rfl, ?hy820⟩) ?hr820
                          case hy820 => (intro w hSw; (try dsimp only at hSw); go_simp; try with_reducible rfl)
                          simp only [Act.put, List.getElem_toArray, List.getElem_cons_zero, List.getElem_cons_succ, List.setIfInBounds_toArray, List.set_cons_zero, List.set_cons_succ]
                          refine tkY 20 (v := ?v821) rfl (.inl ⟨by rfl, ?hy821⟩) ?hr821
                          case hy821 => (intro w hSw; (try dsimp only at hSw); go_simp; try with_reducible rfl)
                          simp only [Act.put, List.getElem_toArray, List.getElem_cons_zero, List.getElem_cons_succ, List.setIfInBounds_toArray, List.set_cons_zero, List.set_cons_succ]
                          refine tkY 21 (v := ?v822) rfl (.inl ⟨by rfl, ?hy822⟩) ?hr822
                          case hy822 => (intro w hSw; (try dsimp only at hSw); go_simp; try with_reducible rfl)
                          simp only [Act.put, List.getElem_toArray, List.getElem_cons_zero, List.getElem_cons_succ, List.setIfInBounds_toArray, List.set_cons_zero, List.set_cons_succ]
                          refine tkY 22 (v := ?v823) rfl (.inl ⟨by rfl, ?hy823⟩) ?hr823
                          case hy823 => (intro w hSw; (try dsimp only at hSw); go_simp; try with_reducible rfl)
                          simp only [Act.put, List.getElem_toArray, List.getElem_cons_zero, List.getElem_cons_succ, List.setIfInBounds_toArray, List.set_cons_zero, List.set_cons_succ]
                          refine tkY 23 (v := ?v824) rfl (.inl ⟨by rfl, ?hy824⟩) ?hr824
                          case hy824 => (intro w hSw; (try dsimp only at hSw); go_simp; try with_reducible rfl)
                          simp only [Act.put, List.getElem_toArray, List.getElem_cons_zero, List.getElem_cons_succ, List.setIfInBounds_toArray, List.set_cons_zero, List.set_cons_succ]
                          refine tkY 24 (v := ?v825) rfl (.inl ⟨by rfl, ?hy825⟩) ?hr825
                          case hy825 => (intro w hSw; (try dsimp only at hSw); go_simp; try with_reducible rfl)
                          simp only [Act.put, List.getElem_toArray, List.getElem_cons_zero, List.getElem_cons_succ, List.setIfInBounds_toArray, List.set_cons_zero, List.set_cons_succ]
                          refine tkY 25 (v := ?v826) rfl (.inl ⟨by rfl, ?hy826⟩) ?hr826
                          case hy826 => (intro w hSw; (try dsimp only at hSw); go_simp; try with_reducible rfl)
                          simp only [Act.put, List.getElem_toArray, List.getElem_cons_zero, List.getElem_cons_succ, List.setIfInBounds_toArray, List.set_cons_zero, List.set_cons_succ]
                          refine tkY 26 (v := ?v827) rfl (.inl ⟨by rfl, ?hy827⟩) ?hr827
                          case hy827 => (intro w hSw; (try dsimp only at hSw); go_simp; try with_reducible rfl)
                          simp only [Act.put, List.getElem_toArray, List.getElem_cons_zero, List.getElem_cons_succ, List.setIfInBounds_toArray, List.set_cons_zero, List.set_cons_succ]
                          refine tkY 27 (v := ?v828) rfl (.inl ⟨by rfl, ?hy828⟩) ?hr828
                          case hy828 => (intro w hSw; (try dsimp only at hSw); go_simp; try with_reducible rfl)
                          simp only [Act.put, List.getElem_toArray, List.getElem_cons_zero, List.getElem_cons_succ, List.setIfInBounds_toArray, List.set_cons_zero, List.set_cons_succ]
                          refine tkY 28 (v := ?v829) rfl (.inl ⟨by rfl, ?hy829⟩) ?hr829
                          case hy829 => (intro w hSw; (try dsimp only at hSw); go_simp; try with_reducible rfl)
                          simp only [Act.put, List.getElem_toArray, List.getElem_cons_zero, List.getElem_cons_succ, List.setIfInBounds_toArray, List.set_cons_zero, List.set_cons_succ]
                          refine tkY 29 (v := ?v830) rfl (.inl ⟨by rfl, ?hy830⟩) ?hr830
                          case hy830 => (intro w hSw; (try dsimp only at hSw); go_simp; try with_reducible rfl)
                          simp only [Act.put, List.getElem_toArray, List.getElem_cons_zero, List.getElem_cons_succ, List.setIfInBounds_toArray, List.set_cons_zero, List.set_cons_succ]
                          refine tkY 30 (v := ?v831) rfl (.inl ⟨by rfl, ?hy831⟩) ?hr831
                          case hy831 => (intro w hSw; (try dsimp only at hSw); go_simp; try with_reducible rfl)
                          simp only [Act.put, List.getElem_toArray, List.getElem_cons_zero, List.getElem_cons_succ, List.setIfInBounds_toArray, List.set_cons_zero, List.set_cons_succ]
                          refine tkY 31 (v := ?v832) rfl (.inl ⟨by rfl, ?hy832⟩) ?hr832
                          case hy832 => (intro w hSw; (try dsimp only at hSw); go_simp; try with_reducible rfl)
                          simp only [Act.put, List.getElem_toArray, List.getElem_cons_zero, List.getElem_cons_succ, List.setIfInBounds_toArray, List.set_cons_zero, List.set_cons_succ]
                          refine tkY 32 (v := ?v833) rfl (.inl ⟨by rfl, ?hy833⟩) ?hr833
                          case hy833 => (intro w hSw; (try dsimp only at hSw); go_simp; try with_reducible rfl)
                          simp only [Act.put, List.getElem_toArray, List.getElem_cons_zero, List.getElem_cons_succ, List.setIfInBounds_toArray, List.set_cons_zero, List.set_cons_succ]
                          refine tkY 33 (v := ?v834) rfl (.inl ⟨by rfl, ?hy834⟩) ?hr834
                          case hy834 => (intro w hSw; (try dsimp only at hSw); go_simp; try with_reducible rfl)
                          simp only [Act.put, List.getElem_toArray, List.getElem_cons_zero, List.getElem_cons_succ, List.setIfInBounds_toArray, List.set_cons_zero, List.set_cons_succ]
                          refine tkY 34 (v := ?v835) rfl (.inl ⟨by rfl, ?hy835⟩) ?hr835
                          case hy835 => (intro w hSw; (try dsimp only at hSw); go_simp; try with_reducible rfl)
                          simp only [Act.put, List.getElem_toArray, List.getElem_cons_zero, List.getElem_cons_succ, List.setIfInBounds_toArray, List.set_cons_zero, List.set_cons_succ]
                          refine wpAnyH_done (by kernel_rfl) ?_ _
                          have hbq := hHeld.1
                          repeat' ((fail_if_success at_builtin); (first | go_skip | go_guarded | go_step))
                          go_roundw
                          case rel => exact ⟨k + 1, by omega, by go_num, hJ.at hbq⟩
                          case measure => simp [intOf]; omega
                      · obtain rfl : k = n1 := by omega
                        have j1 : ¬ ((k : Int) < (k : Int)) := by omega
                        obtain ⟨x0, x1, x2, x3, x4, x5, x6, x7⟩ := hJ.e
                        simp only [Nat.zero_add] at x1 x2 x3 x4 x5 x6 x7
                        have x3' : ∀ u v, ((wr.setCell ⟨b7, 0, none⟩ u).setCell ⟨b7, 1, none⟩ v).cell? ⟨b14, 3, none⟩ = some (.string (scX a).key) := fun u v => by
                          have hne : b7 ≠ b14 := by
                            have h1 := hI.lb
                            have h2 := hI.nb
                            have h3 := hJ.z13
                            omega
                          rw [World.cell?_setCell_far _ _ _ _ hne, World.cell?_setCell_far _ _ _ _ hne]
                          exact x3
                        have hIn := hI9.put (c' := c1) hJ.nx.len hJ.nx.seq
                        have hPn := hP.next hNx q1 q2
                        clear hI9 hI hP hNx hJ x0 x1 x2 x4 x5 x6 x7
                        repeat' ((fail_if_success at_builtin); (first | go_skip | go_guarded | go_step))
                        go_roundw
                        case rel => exact ⟨i + 1, A1, k, c1, next, n2, (scX a).key, by omega, by go_num, rfl, rfl, hIn, hPn, hs3'⟩
                        case measure => simp [intOf]; omega
            · obtain rfl : i = n0 := by omega
              have i1 : ¬ ((i : Int) < (i : Int)) := by omega
              have hnl : n ≤ 25 := by have := hI.x.len; have := hP.len; omega
              have hgood := hP.v.good
              have CL := level_any2 hI o (by omega) (by omega)
              have hlv := lvO_range o
              replace CL := Lib.hid CL
              have f0 := hI.o0
              have f1 := hI.o1
              have f2 := hI.o2
              clear hbw
              repeat' ((fail_if_success at_builtin); (first | go_skip | go_guarded | go_step))
              refine CL.out.mono ?_
              rintro e w4 ⟨rfl, hb4⟩
              dsimp only
              clear CL f0 f1 f2
              replace hI := hI.at hb4
              clear hb4
              have f0 := hI.o0
              have f1 := hI.o1
              have f2 := hI.o2
              have k0 := hI.x.c0
              have k1 := hI.x.c1
              have hlen := hI.x.len
              replace hlen := Lib.hid hlen
              generalize lvO o = lv at *
              repeat' ((fail_if_success at_builtin); (first | go_skip | go_guarded | go_step))
              refine (readable_any o lv 100 l A n c w4 hI.x.len hI.x.seq (by omega)).mono ?_
              rintro e w5 ⟨A1, c1, rfl, hc1, hs1, hb5⟩
              dsimp only
              clear f0 f1 f2 k0 k1
              replace hI := hI.at hb5
              have hrl : (readS o lv l).length ≤ 25 := by
                have := List.length_filter_le (fun x => mayR o lv x.sc) l
                have := hlen.out
                unfold readS
                omega
              have hmem := fun y (h : y ∈ readS o lv l) => read_mem h
              generalize readS o lv l = rl at *
              obtain ⟨nr, hnr⟩ : ∃ nr, nr = rl.length := ⟨_, rfl⟩
              rw [← hnr] at hc1 hs1 hrl ⊢
              replace hnr := Lib.hid hnr
              have hq2 : Seq w5 w5.heap.size 1 A2 m (ps.map Value.string) := (hs2.out.below hI.x.below).more hI.x.below.size
              repeat' ((fail_if_success at_builtin); (first | go_skip | go_guarded | go_step))
              refine (restore_any rl A1 nr c1 key ps A2 m c2 w5 hnr.out hs1 (by omega) hm.out hq2 (by omega)).mono ?_
              rintro e w6 ⟨rfl, hb6⟩
              dsimp only
              replace hI := hI.at hb6
              replace hs1 := (hs1.below hb6).more hb6.size
              replace hq2 := (hq2.below hb6).more hb6.size
              have hbw := hI.x.below
              cases hr : restoreS rl key ps with
              | none =>
                have hps := restore_none hr
                have CP := fun (w' : World) (h : Below w6.heap.size w6 w') => possible_any rl A1 nr c1 key ps A2 m c2 w' hnr.out ((hs1.below h).more h.size) (by omega) hm.out ((hq2.below h).more h.size) (by omega)
                rw [hps] at CP
                replace CP := Lib.hid CP
                replace hps := Lib.hid hps
                simp only [Option.getD_none, Option.isSome_none]
                have hba : Below w6.heap.size w6 (w6.alloc (.cells (ent8 zeroE) 42)) := (Below.refl _ _).alloc (Nat.le_refl _) _
                have hZ : CellsE (w6.alloc (.cells (ent8 zeroE) 42)) w6.heap.size 0 zeroE := ⟨by simp [go_sem], by simp [go_sem], by simp [go_sem], by simp [go_sem], by simp [go_sem], by simp [go_sem], by simp [go_sem], by simp [go_sem]⟩
                go_upto_region 35 with (fail)
                generalize hw7 : World.alloc w6 _ = w7
                replace hba : Below w6.heap.size w6 w7 := by rw [← hw7]; exact hba
                replace hZ : CellsE w7 w6.heap.size 0 zeroE := by rw [← hw7]; exact hZ
                clear hw7
                have x0 : w7.cell? ⟨w6.heap.size, 0, none⟩ = some (.string ⟨#[]⟩) := hZ.c0
                have x1 : w7.cell? ⟨w6.heap.size, 1, none⟩ = some (.int .i64 0) := by have h := hZ.c1; rw [Nat.zero_add] at h; exact h
                have x2 : w7.cell? ⟨w6.heap.size, 2, none⟩ = some (.string ⟨#[]⟩) := by have h := hZ.c2; rw [Nat.zero_add] at h; exact h
                have x3 : w7.cell? ⟨w6.heap.size, 3, none⟩ = some (.string ⟨#[]⟩) := by have h := hZ.c3; rw [Nat.zero_add] at h; exact h
                have x4 : w7.cell? ⟨w6.heap.size, 4, none⟩ = some (.int .u64 0) := by have h := hZ.c4; rw [Nat.zero_add] at h; exact h
                have x5 : w7.cell? ⟨w6.heap.size, 5, none⟩ = some (.int .i64 0) := by have h := hZ.c5; rw [Nat.zero_add] at h; exact h
                have x6 : w7.cell? ⟨w6.heap.size, 6, none⟩ = some (.int .i64 0) := by have h := hZ.c6; rw [Nat.zero_add] at h; exact h
                have x7 : w7.cell? ⟨w6.heap.size, 7, none⟩ = some (.int .i64 0) := by have h := hZ.c7; rw [Nat.zero_add] at h; exact h
                have hbw7 := hbw.trans (hba.mono hbw.size)
                clear hZ
                repeat' ((fail_if_success at_builtin); (first | go_skip | go_guarded | go_step))
                refine (CP.out _ hba).mono ?_
                rintro e w8 ⟨rfl, hb8⟩
                dsimp only
                have hbw8 := hbw7.trans (hb8.mono hbw7.size)
                clear x0 x1 x2 x3 x4 x5 x6 x7
                repeat' ((fail_if_success at_builtin); (first | go_skip | go_guarded | go_step))
                refine (CA.out _ hbw8).mono ?_
                rintro e wz ⟨rfl, hbz⟩
                dsimp only
                have hbz2 := hbw8.trans (hbz.mono hbw8.size)
                repeat' ((fail_if_success at_builtin); (first | go_skip | go_guarded | go_step))
                go_ret
                exact ⟨rfl, hbz2⟩
              | some y =>
                obtain ⟨hyr, hbl⟩ := restore_some hr
                obtain ⟨hyl, hym⟩ := hmem y hyr
                obtain ⟨t1, t2, t3⟩ := may_facts hym
                have hfd := find_mem hgood hyl
                have CB := fun (w' : World) (h : Below w6.heap.size w6 w') => best_law rl A1 nr c1 y key ps A2 m c2 w' hnr.out ((hs1.below h).more h.size) (by omega) hm.out ((hq2.below h).more h.size) (by omega) (by omega)
                rw [hbl] at CB
                have CFd := fun (w' : World) (h : Below w6.heap.size w6 w') => refFind_any y.sc y.key l A n c w' (hI.at h).x.len (hI.at h).x.seq (by omega)
                generalize findI y.sc y.key l = fv at *
                simp only [Option.getD_some, Option.isSome_some]
                clear hr hbl hym hyl hyr hmem
                obtain ⟨⟨yp, yt, yr⟩, yk, yd, yz, yc, yu⟩ := y
                dsimp only at t1 t2 t3
                subst t1
                have hba : Below w6.heap.size w6 (w6.alloc (.cells (ent8 ⟨⟨o.prj, yt, yr⟩, yk, yd, yz, yc, yu⟩) 42)) := (Below.refl _ _).alloc (Nat.le_refl _) _
                have hZ : CellsE (w6.alloc (.cells (ent8 ⟨⟨o.prj, yt, yr⟩, yk, yd, yz, yc, yu⟩) 42)) w6.heap.size 0 ⟨⟨o.prj, yt, yr⟩, yk, yd, yz, yc, yu⟩ := ⟨by simp [go_sem], by simp [go_sem], by simp [go_sem], by simp [go_sem], by simp [go_sem], by simp [go_sem], by simp [go_sem], by simp [go_sem]⟩
                have hz7 : w6.heap.size < (w6.alloc (.cells (ent8 ⟨⟨o.prj, yt, yr⟩, yk, yd, yz, yc, yu⟩) 42)).heap.size := by simp
                replace CB := Lib.hid CB
                replace CFd := Lib.hid CFd
                go_upto_region 36 with (fail)
                generalize hw7 : World.alloc w6 _ = w7
                replace hba : Below w6.heap.size w6 w7 := by rw [← hw7]; exact hba
                replace hZ : CellsE w7 w6.heap.size 0 ⟨⟨o.prj, yt, yr⟩, yk, yd, yz, yc, yu⟩ := by rw [← hw7]; exact hZ
                replace hz7 : w6.heap.size < w7.heap.size := by rw [← hw7]; exact hz7
                clear hw7
                have hbw7 := hbw.trans (hba.mono hbw.size)
                have hI7 := hI.at hba
                have f0 := hI7.o0
                have f1 := hI7.o1
                have k0 := hI7.x.c0
                have k1 := hI7.x.c1
                obtain ⟨x0, x1, x2, x3, x4, x5, x6, x7⟩ := hZ
                simp only [Nat.zero_add] at x1 x2 x3 x4 x5 x6 x7
                have t2' : ¬ (yt < lv) := by omega
                have hfd' : ¬ (fv < 0) := by omega
                have hZ : CellsE w7 w6.heap.size 0 ⟨⟨o.prj, yt, yr⟩, yk, yd, yz, yc, yu⟩ := ⟨x0, by simpa using x1, by simpa using x2, by simpa using x3, by simpa using x4, by simpa using x5, by simpa using x6, by simpa using x7⟩
                by_cases hre : yr = o.ref
                · subst hre
                  clear t3
                  repeat' ((fail_if_success at_builtin); (first | go_skip | go_guarded | go_step))
                  refine (CFd.out _ hba).mono ?_
                  rintro e w8 ⟨rfl, hb8⟩
                  dsimp only
                  have hbw8 := hbw7.trans (hb8.mono hbw7.size)
                  have hba8 := hba.trans (hb8.mono hba.size)
                  clear x0 x1 x2 x3 x4 x5 x6 x7 f0 f1 k0 k1
                  obtain ⟨x0, x1, x2, x3, x4, x5, x6, x7⟩ := hZ.map fun j => hb8.cell (p := ⟨w6.heap.size, 0 + j, none⟩) hz7
                  simp only [Nat.zero_add] at x1 x2 x3 x4 x5 x6 x7
                  clear hZ
                  repeat' ((fail_if_success at_builtin); (first | go_skip | go_guarded | go_step))
                  refine (CB.out _ hba8).mono ?_
                  rintro e w9 ⟨rfl, hb9⟩
                  dsimp only
                  have hbw9 := hbw8.trans (hb9.mono hbw8.size)
                  clear x0 x1 x2 x3 x4 x5 x6 x7
                  repeat' ((fail_if_success at_builtin); (first | go_skip | go_guarded | go_step))
                  refine (CA.out _ hbw9).mono ?_
                  rintro e wz ⟨rfl, hbz⟩
                  dsimp only
                  have hbz2 := hbw9.trans (hbz.mono hbw9.size)
                  repeat' ((fail_if_success at_builtin); (first | go_skip | go_guarded | go_step))
                  go_ret
                  exact ⟨rfl, hbz2⟩
                · have h2 : yt = 2 := t3.resolve_left hre
                  subst h2
                  have hre2 : (yr.toList == o.ref.toList) = false := by
                    rw [beq_eq_false_iff_ne]
                    exact fun e => hre (toList_inj e)
                  clear t3
                  repeat' ((fail_if_success at_builtin); (first | go_skip | go_guarded | go_step))
                  refine (CFd.out _ hba).mono ?_
                  rintro e w8 ⟨rfl, hb8⟩
                  dsimp only
                  have hbw8 := hbw7.trans (hb8.mono hbw7.size)
                  have hba8 := hba.trans (hb8.mono hba.size)
                  clear x0 x1 x2 x3 x4 x5 x6 x7 f0 f1 k0 k1
                  obtain ⟨x0, x1, x2, x3, x4, x5, x6, x7⟩ := hZ.map fun j => hb8.cell (p := ⟨w6.heap.size, 0 + j, none⟩) hz7
                  simp only [Nat.zero_add] at x1 x2 x3 x4 x5 x6 x7
                  clear hZ
                  repeat' ((fail_if_success at_builtin); (first | go_skip | go_guarded | go_step))
                  refine (CB.out _ hba8).mono ?_
                  rintro e w9 ⟨rfl, hb9⟩
                  dsimp only
                  have hbw9 := hbw8.trans (hb9.mono hbw8.size)
                  clear x0 x1 x2 x3 x4 x5 x6 x7
                  repeat' ((fail_if_success at_builtin); (first | go_skip | go_guarded | go_step))
                  refine (CA.out _ hbw9).mono ?_
                  rintro e wz ⟨rfl, hbz⟩
                  dsimp only
                  have hbz2 := hbw9.trans (hbz.mono hbw9.size)
                  repeat' ((fail_if_success at_builtin); (first | go_skip | go_guarded | go_step))
                  go_ret
                  exact ⟨rfl, hbz2⟩
end Go.Proofs.YtpdlapdnjmoaoaaDoor
