/- Cache: Restore: the program's walk. -/
import Derived.Test.YtpdlapdnjmoaoaaDoorCaBB
import Derived.Laws.EntriesVeiled
namespace Go.Proofs.YtpdlapdnjmoaoaaDoor
open Go.RowKit
def keyP (k : ByteArray) : Ent → Bool := fun x => x.key.toList == k.toList
def preP (q : ByteArray) : Ent → Bool := fun x => Lib.hasPrefix x.key.data.toList q.data.toList
def gKey : Ent → Ent → Int := fun a b => orI (lowerI a b) (laterI a b)
def gPre : Ent → Ent → Int := fun a b => orI (laterI a b) (lowerI a b)
def pfxF (es : List Ent) : List ByteArray → Option Ent
  | [] => none
  | q :: ps => match bestF (preP q) gPre none es with
    | some x => some x
    | none => pfxF es ps
def restoreS (es : List Ent) (k : ByteArray) (ps : List ByteArray) : Option Ent := match bestF (keyP k) gKey none es with
  | some x => some x
  | none => pfxF es ps
def orElseE (o : Option Ent) (p : Option Ent) : Option Ent := match o with
  | some x => some x
  | none => p
def iAt (u : Value) (w : World) : Nat := match u with
  | .pointer (some a) => match w.cell? a with
    | some v => (intOf v).toNat
    | none => 0
  | _ => 0
theorem iAt_of {w : World} {b : Nat} (i : Nat) (h : w.cell? ⟨b, 0, none⟩ = some (.int .i64 (i : Int))) : iAt (.pointer (some ⟨b, 0, none⟩)) w = i := by
  unfold iAt
  dsimp only
  rw [h]
  exact Int.toNat_natCast i
structure TInv (w wr : World) (eb : Nat) (A2 : Option Addr) (m c2 : Nat) (o : Option Ent) : Prop where
  below : Below w.heap.size w wr
  so : w.heap.size + 5 ≤ eb
  le : eb < wr.heap.size
  ps : wr.cell? ⟨w.heap.size + 1, 0, none⟩ = some (.slice A2 m c2)
  f3 : wr.cell? ⟨w.heap.size + 3, 0, none⟩ = some (.func (.func 47) #[] #[])
  f4 : wr.cell? ⟨w.heap.size + 4, 0, none⟩ = some (.func (.func 49) #[] #[])
  r : CellsE wr (w.heap.size + 2) 0 zeroE
  e : CellsE wr eb 0 (o.getD zeroE)
  fr : ∀ j, wr.frozen? ⟨w.heap.size + 2, j, none⟩ = false
  fe : ∀ j, wr.frozen? ⟨eb, j, none⟩ = false
theorem TInv.at {w wr wy : World} {eb : Nat} {A2 : Option Addr} {m c2 : Nat} {o : Option Ent} (h : TInv w wr eb A2 m c2 o) (hb : Below wr.heap.size wr wy) : TInv w wy eb A2 m c2 o := by
  have h1 := h.so
  have h2 := h.le
  exact ⟨h.below.trans (hb.mono h.below.size), h1, Nat.lt_of_lt_of_le h2 hb.size, (hb.cell (p := ⟨w.heap.size + 1, 0, none⟩) (by show w.heap.size + 1 < _; omega)).trans h.ps,
    (hb.cell (p := ⟨w.heap.size + 3, 0, none⟩) (by show w.heap.size + 3 < _; omega)).trans h.f3, (hb.cell (p := ⟨w.heap.size + 4, 0, none⟩) (by show w.heap.size + 4 < _; omega)).trans h.f4,
    h.r.map (fun j => hb.cell (p := ⟨w.heap.size + 2, 0 + j, none⟩) (by show w.heap.size + 2 < _; omega)), h.e.map (fun j => hb.cell (p := ⟨eb, 0 + j, none⟩) h2),
    fun j => (hb.frozen (p := ⟨w.heap.size + 2, j, none⟩) (by show w.heap.size + 2 < _; omega)).trans (h.fr j), fun j => (hb.frozen (p := ⟨eb, j, none⟩) h2).trans (h.fe j)⟩
/-- a store in a block of its own beyond -/
theorem TInv.far {w wr : World} {eb ib : Nat} {A2 : Option Addr} {m c2 : Nat} {o : Option Ent} (h : TInv w wr eb A2 m c2 o) (hi : eb < ib) (v : Value) : TInv w (wr.setCell ⟨ib, 0, none⟩ v) eb A2 m c2 o := by
  have h1 := h.so
  have fc : ∀ p : Addr, p.block ≠ ib → (wr.setCell ⟨ib, 0, none⟩ v).cell? p = wr.cell? p := fun p hp => World.cell?_setCell_far _ _ _ _ (fun e => hp e.symm)
  exact ⟨h.below.setCell (p := ⟨ib, 0, none⟩) (by show w.heap.size ≤ ib; omega) _, h1, by simp [World.setCell]; exact h.le, (fc _ (by show w.heap.size + 1 ≠ ib; omega)).trans h.ps, (fc _ (by show w.heap.size + 3 ≠ ib; omega)).trans h.f3, (fc _ (by show w.heap.size + 4 ≠ ib; omega)).trans h.f4,
    h.r.map (fun j => fc _ (by show w.heap.size + 2 ≠ ib; omega)), h.e.map (fun j => fc _ (by show eb ≠ ib; omega)), fun j => by rw [World.frozen?_setCell]; exact h.fr j, fun j => by rw [World.frozen?_setCell]; exact h.fe j⟩
theorem TInv.put {w wr : World} {eb : Nat} {A2 : Option Addr} {m c2 : Nat} {o : Option Ent} (h : TInv w wr eb A2 m c2 o) (o' : Option Ent) : TInv w (put8 wr eb (o'.getD zeroE)) eb A2 m c2 o' := by
  have h1 := h.so
  exact ⟨put8_below h.below (by omega) _, h1, by rw [put8_size]; exact h.le, (put8_far _ _ _ (by show w.heap.size + 1 ≠ eb; omega)).trans h.ps, (put8_far _ _ _ (by show w.heap.size + 3 ≠ eb; omega)).trans h.f3, (put8_far _ _ _ (by show w.heap.size + 4 ≠ eb; omega)).trans h.f4,
    h.r.map (fun j => put8_far _ _ _ (by show w.heap.size + 2 ≠ eb; omega)), put8_cells _ h.e, fun j => (put8_frozen _ _ _ _).trans (h.fr j), fun j => (put8_frozen _ _ _ _).trans (h.fe j)⟩
set_option maxRecDepth 100000 in
set_option maxHeartbeats 8000000 in
theorem restore_any (l : List Ent) (A : Option Addr) (n c : Nat) (k : ByteArray) (ps : List ByteArray) (A2 : Option Addr) (m c2 : Nat) (w : World) (hn : n = l.length) (hs : Seq w w.heap.size 8 A n (entsC l)) (hl : n ≤ 1000000000) (hm : m = ps.length) (hs2 : Seq w w.heap.size 1 A2 m (ps.map Value.string)) (hl2 : m ≤ 1000000000) :
    Calls Tryd.prog 23 #[.slice A n c, .string k, .slice A2 m c2] w fun e w' => e = .returned (.tuple #[.agg (ent8 ((restoreS l k ps).getD zeroE)), .bool (restoreS l k ps).isSome]) ∧ Below w.heap.size w w' := by
  obtain ⟨w1, hw1⟩ : ∃ w1 : World, w1 = ((((w.alloc (.cells #[.string k] 9)).alloc (.cells #[.slice A2 m c2] 49)).alloc (.cells (ent8 zeroE) 42)).alloc (.cells #[.func (.func 47) #[] #[]] 79)).alloc (.cells #[.func (.func 49) #[] #[]] 79) := ⟨_, rfl⟩
  have hb0 : Below w.heap.size w w1 := by rw [hw1]; exact (((((Below.refl w.heap.size w).alloc (Nat.le_refl _) _).alloc (by simp) _).alloc (by simp; omega) _).alloc (by simp; omega) _).alloc (by simp; omega) _
  have zz : w1.heap.size = w.heap.size + 5 := by rw [hw1]; simp
  have z0 : w1.cell? ⟨w.heap.size, 0, none⟩ = some (.string k) := by rw [hw1]; simp [go_sem]
  have z1 : w1.cell? ⟨w.heap.size + 1, 0, none⟩ = some (.slice A2 m c2) := by rw [hw1]; simp [go_sem]
  have z3 : w1.cell? ⟨w.heap.size + 3, 0, none⟩ = some (.func (.func 47) #[] #[]) := by rw [hw1]; simp [go_sem]
  have z4 : w1.cell? ⟨w.heap.size + 4, 0, none⟩ = some (.func (.func 49) #[] #[]) := by rw [hw1]; simp [go_sem]
  have zR : CellsE w1 (w.heap.size + 2) 0 zeroE := by rw [hw1]; exact ⟨by simp [go_sem], by simp [go_sem], by simp [go_sem], by simp [go_sem], by simp [go_sem], by simp [go_sem], by simp [go_sem], by simp [go_sem]⟩
  have zf : ∀ j, w1.frozen? ⟨w.heap.size + 2, j, none⟩ = false := fun j => by rw [hw1]; simp [go_sem]
  have C := best34_any l A n c k w.heap.size (w.heap.size + 3) (w.heap.size + 4) w1 hn ((hs.below hb0).more hb0.size) hl z0 z3 z4 (by omega) (by omega) (by omega)
  have hrs : restoreS l k ps = orElseE (bestF (keyP k) gKey none l) (pfxF l (ps.drop 0)) := rfl
  have hkk : bestF (fun x : Ent => x.key.toList == k.toList) (fun a b : Ent => orI (lowerI a b) (laterI a b)) none l = bestF (keyP k) gKey none l := rfl
  rw [hkk] at C
  generalize bestF (keyP k) gKey none l = o0 at *
  replace C := Lib.hid C
  replace hrs := Lib.hid hrs
  replace hs := Lib.hid hs
  replace hs2 := Lib.hid hs2
  replace hn := Lib.hid hn
  replace hm := Lib.hid hm
  replace hw1 := Lib.hid hw1
  clear hkk
  go_enter Tryd.func23, Tryd.ntmps23
  repeat' ((fail_if_success at_builtin); (first | go_skip | go_guarded | go_step))
  first
    | rw [← hw1.out]
    | (have hz := hw1.out; unfold zeroE at hz; dsimp only [ent8] at hz; rw [← hz])
  refine C.out.mono ?_
  rintro e w2 ⟨rfl, hb2⟩
  dsimp only
  have hT : TInv w (w2.alloc (.cells (ent8 (o0.getD zeroE)) 42)) w2.heap.size A2 m c2 o0 := by
    have hs2' := hb2.size
    have hba := hb2.trans (((Below.refl w2.heap.size w2).alloc (Nat.le_refl _) (.cells (ent8 (o0.getD zeroE)) 42)).mono hs2')
    exact ⟨hb0.trans (hba.mono hb0.size), by omega, by simp, (hba.cell (p := ⟨w.heap.size + 1, 0, none⟩) (by show w.heap.size + 1 < _; omega)).trans z1, (hba.cell (p := ⟨w.heap.size + 3, 0, none⟩) (by show w.heap.size + 3 < _; omega)).trans z3, (hba.cell (p := ⟨w.heap.size + 4, 0, none⟩) (by show w.heap.size + 4 < _; omega)).trans z4,
      zR.map (fun j => hba.cell (p := ⟨w.heap.size + 2, 0 + j, none⟩) (by show w.heap.size + 2 < _; omega)), ⟨by simp [go_sem], by simp [go_sem], by simp [go_sem], by simp [go_sem], by simp [go_sem], by simp [go_sem], by simp [go_sem], by simp [go_sem]⟩,
      fun j => (hba.frozen (p := ⟨w.heap.size + 2, j, none⟩) (by show w.heap.size + 2 < _; omega)).trans (zf j), fun j => by simp [go_sem]⟩
  have hebz : (w2.alloc (.cells (ent8 (o0.getD zeroE)) 42)).heap.size = w2.heap.size + 1 := by simp
  replace hT := Lib.hid hT
  clear C z0 z1 z3 z4 zR zf hb0 hb2
  repeat' ((fail_if_success at_builtin); (first | go_skip | go_guarded | go_step))
  have hI0 : ∀ v, ((w2.alloc (.cells (ent8 (o0.getD zeroE)) 42)).alloc (.cells #[v] 3)).cell? ⟨w2.heap.size + 1, 0, none⟩ = some v ∧ (∀ j, ((w2.alloc (.cells (ent8 (o0.getD zeroE)) 42)).alloc (.cells #[v] 3)).frozen? ⟨w2.heap.size + 1, j, none⟩ = false) ∧ ((w2.alloc (.cells (ent8 (o0.getD zeroE)) 42)).alloc (.cells #[v] 3)).heap.size = w2.heap.size + 2 := fun v => ⟨by rw [← hebz]; simp [go_sem], fun j => by rw [← hebz]; simp [go_sem], by simp⟩
  have hT1 := hT.out.at ((Below.refl _ _).alloc (Nat.le_refl _) (.cells #[.int .i64 0] 3))
  obtain ⟨I0, If, Iz⟩ := hI0 (.int .i64 0)
  generalize World.alloc (World.alloc w2 _) _ = w4 at *
  generalize w2.heap.size = eb at *
  clear hT hI0 hebz
  go_loopw [11, 12] (fun u11 u12 wr => ∃ (i ib : Nat) (o : Option Ent), u12 = .pointer (some ⟨ib, 0, none⟩) ∧ u11 = .bool o.isSome ∧ i ≤ m ∧ wr.cell? ⟨ib, 0, none⟩ = some (.int .i64 (i : Int)) ∧ (∀ j, wr.frozen? ⟨ib, j, none⟩ = false) ∧ eb < ib ∧ ib < wr.heap.size ∧ TInv w wr eb A2 m c2 o ∧ restoreS l k ps = orElseE o (pfxF l (ps.drop i))) (fun _ u12 wr => m - iAt u12 wr)
  case atStart => exact ⟨0, eb + 1, o0, rfl, rfl, by omega, I0, If, by omega, by omega, hT1, hrs.out⟩
  case round =>
    clear hT1 I0 If Iz hrs
    obtain ⟨i, ib, o, rfl, rfl, hi, hic, hif, hlt1, hlt2, hT, hu⟩ := hrel
    have g1 := hT.ps
    have hso := hT.so
    have hle := hT.le
    have hmeas : iAt (.pointer (some ⟨ib, 0, none⟩)) wr = i := by unfold iAt; dsimp only; rw [hic]; rfl
    replace hmeas := Lib.hid hmeas
    have hfinish : ∀ (q : Option Ent), orElseE o (pfxF l (ps.drop i)) = q → o = q → restoreS l k ps = o := fun q h1 h2 => by rw [hu, h1, h2]
    have lr2 : w.heap.size + 2 < wr.heap.size := by omega
    by_cases hlt : i < m
    · have i0 : (0 : Int) ≤ (i : Int) := by omega
      have i1 : (i : Int) < (m : Int) := by omega
      cases o with
      | some x =>
        have hfin : restoreS l k ps = some x := hu
        replace hfin := Lib.hid hfin
        obtain ⟨r0, r1, r2, r3, r4, r5, r6, r7⟩ := hT.r
        obtain ⟨e0, e1, e2, e3, e4, e5, e6, e7⟩ := hT.e
        simp only [Nat.zero_add] at r1 r2 r3 r4 r5 r6 r7 e1 e2 e3 e4 e5 e6 e7
        have rf := hT.fr
        have P1 := put8_cells x hT.r
        have P3 := put8_below hT.below (show w.heap.size ≤ w.heap.size + 2 by omega) x
        replace P1 := Lib.hid P1
        replace P3 := Lib.hid P3
        clear hu hfinish hT
        repeat' ((fail_if_success at_builtin); (first | go_skip | go_guarded | go_step))
        have Q : CellsE _ (w.heap.size + 2) 0 x := P1.out
        obtain ⟨q0, q1, q2, q3, q4, q5, q6, q7⟩ := Q
        simp only [Nat.zero_add] at q1 q2 q3 q4 q5 q6 q7
        have hbF := P3.out
        unfold put8 at q0 q1 q2 q3 q4 q5 q6 q7 hbF
        generalize World.setCell (World.setCell (World.setCell (World.setCell (World.setCell (World.setCell (World.setCell (World.setCell wr _ _) _ _) _ _) _ _) _ _) _ _) _ _) _ _ = wf at *
        refine bodyPost_ret (v := .tuple #[.agg (ent8 x), .bool true]) (by simp only [results, Tryd.results23]; go_simp; try exact ⟨rfl, rfl⟩) rfl ?_
        exact ⟨by rw [hfin.out]; rfl, hbF⟩
      | none =>
        obtain ⟨bq, oq, rfl, hbq, hcq⟩ := hs2.out.2 (by omega)
        have hxi : i < ps.length := by have := hm.out; omega
        have hq1 : ps[i]? = some ps[i] := List.getElem?_eq_getElem hxi
        have ks := (hT.below.cell (p := ⟨bq, oq + i, none⟩) hbq).trans (hcq i (.string ps[i]) (by rw [List.getElem?_map, hq1]; rfl))
        have C := best56_any l A n c ps[i] (w.heap.size + 1) ib bq oq m c2 i (w.heap.size + 3) (w.heap.size + 4) wr hn.out ((hs.out.below hT.below).more hT.below.size) hl g1 hic ks hlt hT.f3 hT.f4 (by omega) (by omega) (Nat.lt_of_lt_of_le hbq hT.below.size) (by omega) (by omega)
        have hkk : bestF (fun x : Ent => Lib.hasPrefix x.key.data.toList ps[i].data.toList) (fun a b : Ent => orI (laterI a b) (lowerI a b)) none l = bestF (preP ps[i]) gPre none l := rfl
        rw [hkk] at C
        have hstep : pfxF l (ps.drop i) = orElseE (bestF (preP ps[i]) gPre none l) (pfxF l (ps.drop (i + 1))) := by
          rw [List.drop_eq_getElem_cons hxi]
          rfl
        generalize bestF (preP ps[i]) gPre none l = o' at *
        replace C := Lib.hid C
        replace hstep := Lib.hid hstep
        replace hu := Lib.hid hu
        replace hT := Lib.hid hT
        clear hkk ks hq1 hcq hfinish
        repeat' ((fail_if_success at_builtin); (first | go_skip | go_guarded | go_step))
        refine C.out.mono ?_
        rintro e w5 ⟨rfl, hb5⟩
        dsimp only
        have hT5 := hT.out.at hb5
        have hic5 := (hb5.cell (p := ⟨ib, 0, none⟩) hlt2).trans hic
        have hs5 := hb5.size
        have hT6 := hT5.put o'
        obtain ⟨e0, e1, e2, e3, e4, e5, e6, e7⟩ := hT5.e
        simp only [Nat.zero_add] at e1 e2 e3 e4 e5 e6 e7
        have ff := hT5.fe
        have leb : eb < w5.heap.size := by omega
        have lib : ib < w5.heap.size := by omega
        have hne : ¬ (eb = ib) := by omega
        have hne2 : ¬ (ib = eb) := by omega
        have hw1 : IntKind.i64.wrap ((i : Int) + 1) = (i : Int) + 1 := IntWalk.i64_in _ (by omega)
        generalize hqd : o'.getD zeroE = q at *
        replace hqd := Lib.hid hqd
        replace hT6 := Lib.hid hT6
        clear hT5 C
        repeat' ((fail_if_success at_builtin); (first | go_skip | go_guarded | go_step))
        have hd : (put8 w5 eb q).heap.size = w5.heap.size := put8_size _ _ _
        have hT7 := hT6.out.at ((Below.refl _ _).alloc (Nat.le_refl _) (.cells #[.int .i64 ((i : Int) + 1)] 3))
        have n1 : ((put8 w5 eb q).alloc (.cells #[.int .i64 ((i : Int) + 1)] 3)).cell? ⟨w5.heap.size, 0, none⟩ = some (.int .i64 ((i : Int) + 1)) := by rw [← hd]; simp [go_sem]
        have n2 : ∀ j, ((put8 w5 eb q).alloc (.cells #[.int .i64 ((i : Int) + 1)] 3)).frozen? ⟨w5.heap.size, j, none⟩ = false := fun j => by rw [← hd]; simp [go_sem]
        have n3 : ((put8 w5 eb q).alloc (.cells #[.int .i64 ((i : Int) + 1)] 3)).heap.size = w5.heap.size + 1 := by rw [← hd]; simp
        unfold put8 at n1 n2 n3 hT7
        have hmn := iAt_of (i + 1) n1
        refine ⟨⟨i + 1, w5.heap.size, o', rfl, rfl, by omega, n1, n2, leb, by rw [n3]; omega, hT7, ?_⟩, ?_⟩
        · rw [hu.out, hstep.out]; cases o' <;> rfl
        · rw [hmeas.out]
          refine Nat.lt_of_le_of_lt (Nat.le_of_eq (congrArg (m - ·) hmn)) ?_
          show m - (i + 1) < m - i
          omega
    · have i1 : ¬ ((i : Int) < (m : Int)) := by omega
      have hnil : ps.drop i = [] := List.drop_of_length_le (by have := hm.out; omega)
      have hfin : restoreS l k ps = o := by rw [hu, hnil]; cases o <;> rfl
      replace hfin := Lib.hid hfin
      obtain ⟨r0, r1, r2, r3, r4, r5, r6, r7⟩ := hT.r
      obtain ⟨e0, e1, e2, e3, e4, e5, e6, e7⟩ := hT.e
      simp only [Nat.zero_add] at r1 r2 r3 r4 r5 r6 r7 e1 e2 e3 e4 e5 e6 e7
      have rf := hT.fr
      have P1 := put8_cells (o.getD zeroE) hT.r
      have P3 := put8_below hT.below (show w.heap.size ≤ w.heap.size + 2 by omega) (o.getD zeroE)
      generalize hqd : o.getD zeroE = q at *
      replace hqd := Lib.hid hqd
      replace P1 := Lib.hid P1
      replace P3 := Lib.hid P3
      clear hu hfinish hT
      repeat' ((fail_if_success at_builtin); (first | go_skip | go_guarded | go_step))
      have Q : CellsE _ (w.heap.size + 2) 0 q := P1.out
      obtain ⟨q0, q1, q2, q3, q4, q5, q6, q7⟩ := Q
      simp only [Nat.zero_add] at q1 q2 q3 q4 q5 q6 q7
      have hbF := P3.out
      unfold put8 at q0 q1 q2 q3 q4 q5 q6 q7 hbF
      generalize World.setCell (World.setCell (World.setCell (World.setCell (World.setCell (World.setCell (World.setCell (World.setCell wr _ _) _ _) _ _) _ _) _ _) _ _) _ _) _ _ = wf at *
      refine bodyPost_ret (v := .tuple #[.agg (ent8 q), .bool o.isSome]) (by simp only [results, Tryd.results23]; go_simp; try exact ⟨rfl, rfl⟩) rfl ?_
      exact ⟨by rw [hfin.out, hqd.out], hbF⟩
end Go.Proofs.YtpdlapdnjmoaoaaDoor
