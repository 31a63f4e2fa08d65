/- Cache: Begins, the document's Restore. -/
import Derived.Test.YtpdlapdnjmoaoaaDoorCaBR
import Derived.Test.YtpdlapdnjmoaoaaDoorHk
namespace Go.Proofs.YtpdlapdnjmoaoaaDoor
open Go.RowKit
theorem orI_ge (a b : Int) (ha : a = -1 ∨ a = 0 ∨ a = 1) : 0 ≤ orI a b ↔ a = 1 ∨ (a = 0 ∧ 0 ≤ b) := by
  unfold orI
  rcases ha with rfl | rfl | rfl
  · simp
  · simp
  · simp
theorem cmpI_cases (a b : Int) : (Lib.compareInt a b = -1 ∧ a < b) ∨ (Lib.compareInt a b = 0 ∧ a = b) ∨ (Lib.compareInt a b = 1 ∧ b < a) := by
  unfold Lib.compareInt
  by_cases h : a < b
  · simp [h]
  · by_cases h2 : a = b
    · subst h2; simp
    · simp [h, h2]; omega
theorem gKey_ge (x y : Ent) : 0 ≤ gKey x y ↔ x.sc.trust < y.sc.trust ∨ (x.sc.trust = y.sc.trust ∧ y.created ≤ x.created) := by
  unfold gKey lowerI laterI
  have h1 := cmpI_cases y.sc.trust x.sc.trust
  have h2 := cmpI_cases x.created y.created
  rw [orI_ge _ _ (by omega)]
  omega
theorem gPre_ge (x y : Ent) : 0 ≤ gPre x y ↔ y.created < x.created ∨ (x.created = y.created ∧ x.sc.trust ≤ y.sc.trust) := by
  unfold gPre lowerI laterI
  have h1 := cmpI_cases y.sc.trust x.sc.trust
  have h2 := cmpI_cases x.created y.created
  rw [orI_ge _ _ (by omega)]
  omega
def encK (l : List Ent) (n : Nat) (o : Option Ent) (k : Int) : Prop := match o with
  | none => k = -1
  | some y => ∃ j : Nat, k = (j : Int) ∧ j < n ∧ l[j]? = some y
set_option maxRecDepth 100000 in
set_option maxHeartbeats 1000000 in
theorem begins_any (s h : ByteArray) (w : World) : Calls Tryd.prog 57 #[.string s, .string h] w fun e w' => e = .returned (.bool (Lib.hasPrefix s.data.toList h.data.toList)) ∧ w' = w := by
  have hr := Lib.hasPrefix_raw s h
  by_cases hle : h.size ≤ s.size
  · have h1 : (h.size : Int) ≤ (s.size : Int) := by omega
    have h2 : (0 : Int) ≤ (h.size : Int) := by omega
    simp only [hle, decide_true, Bool.true_and] at hr
    go_enter Tryd.func57, Tryd.ntmps57
    repeat' ((fail_if_success at_builtin); (first | go_skip | go_guarded | go_step))
    go_ret
    exact ⟨by rw [← hr]; rfl, rfl⟩
  · have h1 : ¬ ((h.size : Int) ≤ (s.size : Int)) := by omega
    simp only [hle, decide_false, Bool.false_and] at hr
    rw [← hr]
    clear hr
    go_enter Tryd.func57, Tryd.ntmps57
    repeat' ((fail_if_success at_builtin); (first | go_skip | go_guarded | go_step))
    go_ret
    exact ⟨rfl, rfl⟩
set_option maxRecDepth 100000 in
set_option maxHeartbeats 8000000 in
theorem refRestore_any (l : List Ent) (A : Option Addr) (n c : Nat) (k : ByteArray) (ps : List ByteArray) (A2 : Option Addr) (m c2 : Nat) (w : World) (hn : n = l.length) (hs : Seq w w.heap.size 8 A n (entsC l)) (hl : n ≤ 1000000000) (hm : m = ps.length) (hs2 : Seq w w.heap.size 1 A2 m (ps.map Value.string)) (hl2 : m ≤ 1000000000) :
    Calls Tryd.prog 24 #[.slice A n c, .string k, .slice A2 m c2] w fun e w' => e = .returned (.tuple #[.agg (ent8 ((restoreS l k ps).getD zeroE)), .bool (restoreS l k ps).isSome]) ∧ Below w.heap.size w w' := by
  obtain ⟨w1, hw1⟩ : ∃ w1 : World, w1 = w.alloc (.cells (ent8 zeroE) 42) := ⟨_, rfl⟩
  have hb0 : Below w.heap.size w w1 := by rw [hw1]; exact (Below.refl w.heap.size w).alloc (Nat.le_refl _) _
  have zz : w1.heap.size = w.heap.size + 1 := by rw [hw1]; simp
  have zR : CellsE w1 w.heap.size 0 zeroE := by rw [hw1]; exact ⟨by simp [go_sem], by simp [go_sem], by simp [go_sem], by simp [go_sem], by simp [go_sem], by simp [go_sem], by simp [go_sem], by simp [go_sem]⟩
  have zf : ∀ j, w1.frozen? ⟨w.heap.size, j, none⟩ = false := fun j => by rw [hw1]; simp [go_sem]
  have hrs : restoreS l k ps = orElseE (bestF (keyP k) gKey none l) (pfxF l (ps.drop 0)) := rfl
  have hst : bestF (keyP k) gKey none l = bestF (keyP k) gKey none (l.drop 0) := rfl
  generalize bestF (keyP k) gKey none l = fin at *
  replace hrs := Lib.hid hrs
  replace hst := Lib.hid hst
  replace hs := Lib.hid hs
  replace hs2 := Lib.hid hs2
  replace hn := Lib.hid hn
  replace hm := Lib.hid hm
  replace hw1 := Lib.hid hw1
  go_enter Tryd.func24, Tryd.ntmps24
  repeat' ((fail_if_success at_builtin); (first | go_skip | go_guarded | go_step))
  first
    | rw [← hw1.out]
    | (have hz := hw1.out; unfold zeroE at hz; dsimp only [ent8] at hz; rw [← hz])
  go_loopw [8, 9] (fun u8 uI wr => ∃ (i : Nat) (o : Option Ent) (kI : Int), i ≤ n ∧ u8 = .int .i64 kI ∧ uI = .int .i64 (i : Int) ∧ Below w.heap.size w wr ∧ w.heap.size + 1 ≤ wr.heap.size ∧ CellsE wr w.heap.size 0 zeroE ∧ (∀ j, wr.frozen? ⟨w.heap.size, j, none⟩ = false) ∧ encK l n o kI ∧ fin = bestF (keyP k) gKey o (l.drop i)) (fun _ uI _ => n - (intOf uI).toNat)
  case atStart => exact ⟨0, none, -1, by omega, rfl, rfl, hb0, by omega, zR, zf, rfl, hst.out⟩
  case round =>
    clear hst zR zf hb0 zz
    obtain ⟨i, o, kI, hi, rfl, rfl, hb, hsz, hR, fR, henc, hu⟩ := hrel
    have lr : w.heap.size < wr.heap.size := by omega
    by_cases hlt : i < n
    · have hlt2 : i < l.length := by have := hn.out; omega
      have hx : l[i]? = some l[i] := List.getElem?_eq_getElem hlt2
      obtain ⟨bl, off, rfl, hbB, hc⟩ := ent_at hs.out hn.out hx
      rw [List.drop_eq_getElem_cons hlt2] at hu
      obtain ⟨c0, c1, c2, c3, c4, c5, c6, c7⟩ := hc.map (fun j => hb.cell (p := ⟨bl, off + i * 8 + j, none⟩) hbB)
      generalize l[i] = x at *
      have i0 : (0 : Int) ≤ (i : Int) := by omega
      have i1 : (i : Int) < (n : Int) := by omega
      have i2 : IntKind.i64.wrap ((i : Int) + 1) = (i : Int) + 1 := IntWalk.i64_in _ (by omega)
      clear c0 c2 c4 c5 c7 hc
      replace hu := Lib.hid hu
      replace hR := Lib.hid hR
      replace hx := Lib.hid hx
      replace henc := Lib.hid henc
      cases hsel : keyP k x with
      | false =>
        have hu2 : fin = bestF (keyP k) gKey o (l.drop (i + 1)) := by
          have h9 := hu.out
          rw [bestF_cons] at h9
          rw [hsel] at h9; simpa using h9
        replace hu2 := Lib.hid hu2
        have hsel : (x.key.toList == k.toList) = false := hsel
        repeat' ((fail_if_success at_builtin); (first | go_skip | go_guarded | go_step))
        go_quiet (fail)
        have hb9 : Below wr.heap.size wr (wr.drewN nq) := ⟨rfl, rfl, rfl, Nat.le_refl _, fun _ _ => rfl⟩
        repeat' ((fail_if_success at_builtin); (first | go_skip | go_guarded | go_step))
        go_roundw
        case rel => exact ⟨i + 1, o, kI, by omega, rfl, by go_num, hb.trans (hb9.mono hb.size), by have := hb9.size; omega, hR.out.map (fun j => hb9.cell (p := ⟨w.heap.size, 0 + j, none⟩) lr), (fun j => (hb9.frozen (p := ⟨w.heap.size, j, none⟩) lr).trans (fR j)), henc.out, hu2.out⟩
        case measure => simp [intOf]; omega
      | true =>
        cases o with
        | none =>
          have hu2 : fin = bestF (keyP k) gKey (some x) (l.drop (i + 1)) := by
            have h9 := hu.out
            rw [bestF_cons] at h9
            rw [hsel] at h9; simpa using h9
          replace hu2 := Lib.hid hu2
          have hsel : (x.key.toList == k.toList) = true := hsel
          obtain rfl : kI = -1 := henc.out
          have d0 : decide ((-1 : Int) < 0) = true := rfl
          repeat' ((fail_if_success at_builtin); (first | go_skip | go_guarded | go_step))
          go_quiet (fail)
          have hb9 : Below wr.heap.size wr (wr.drewN nq) := ⟨rfl, rfl, rfl, Nat.le_refl _, fun _ _ => rfl⟩
          repeat' ((fail_if_success at_builtin); (first | go_skip | go_guarded | go_step))
          go_roundw
          case rel => exact ⟨i + 1, some x, (i : Int), by omega, rfl, by go_num, hb.trans (hb9.mono hb.size), by have := hb9.size; omega, hR.out.map (fun j => hb9.cell (p := ⟨w.heap.size, 0 + j, none⟩) lr), (fun j => (hb9.frozen (p := ⟨w.heap.size, j, none⟩) lr).trans (fR j)), ⟨i, rfl, hlt, hx.out⟩, hu2.out⟩
          case measure => simp [intOf]; omega
        | some y =>
          obtain ⟨j, rfl, hjn, hj⟩ := henc.out
          obtain ⟨b2, off2, heq, hb2, hd⟩ := ent_at hs.out hn.out hj
          cases heq
          obtain ⟨d0, d1, d2, d3, d4, d5, d6, d7⟩ := hd.map (fun t => hb.cell (p := ⟨bl, off + j * 8 + t, none⟩) hb2)
          have j0 : (0 : Int) ≤ (j : Int) := by omega
          have j1 : (j : Int) < (n : Int) := by omega
          have j2 : decide ((j : Int) < 0) = false := decide_eq_false (by omega)
          clear d0 d2 d3 d4 d5 d7
          replace hj := Lib.hid hj
          by_cases ht : x.sc.trust < y.sc.trust
          · have hu2 : fin = bestF (keyP k) gKey (some x) (l.drop (i + 1)) := by
              have h9 := hu.out
              rw [bestF_cons] at h9
              have hge := (gKey_ge x y).2 (.inl ht)
              simp [hsel, hge] at h9
              exact h9
            replace hu2 := Lib.hid hu2
            have hsel : (x.key.toList == k.toList) = true := hsel
            have t1 : decide (x.sc.trust < y.sc.trust) = true := decide_eq_true ht
            clear ht
            repeat' ((fail_if_success at_builtin); (first | go_skip | go_guarded | go_step))
            go_quiet (fail)
            have hb9 : Below wr.heap.size wr (wr.drewN nq) := ⟨rfl, rfl, rfl, Nat.le_refl _, fun _ _ => rfl⟩
            repeat' ((fail_if_success at_builtin); (first | go_skip | go_guarded | go_step))
            go_roundw
            case rel => exact ⟨i + 1, some x, (i : Int), by omega, rfl, by go_num, hb.trans (hb9.mono hb.size), by have := hb9.size; omega, hR.out.map (fun j => hb9.cell (p := ⟨w.heap.size, 0 + j, none⟩) lr), (fun j => (hb9.frozen (p := ⟨w.heap.size, j, none⟩) lr).trans (fR j)), ⟨i, rfl, hlt, hx.out⟩, hu2.out⟩
            case measure => simp [intOf]; omega
          · by_cases he : x.sc.trust = y.sc.trust
            · by_cases hg : y.created ≤ x.created
              · have hu2 : fin = bestF (keyP k) gKey (some x) (l.drop (i + 1)) := by
                  have h9 := hu.out
                  rw [bestF_cons] at h9
                  have hge := (gKey_ge x y).2 (.inr ⟨he, hg⟩)
                  simp [hsel, hge] at h9
                  exact h9
                replace hu2 := Lib.hid hu2
                have hsel : (x.key.toList == k.toList) = true := hsel
                have t1 : decide (x.sc.trust < y.sc.trust) = false := decide_eq_false ht
                have t2 : (x.sc.trust == y.sc.trust) = true := by simpa using he
                have t3 : decide (y.created ≤ x.created) = true := decide_eq_true hg
                clear ht he hg
                repeat' ((fail_if_success at_builtin); (first | go_skip | go_guarded | go_step))
                go_quiet (fail)
                have hb9 : Below wr.heap.size wr (wr.drewN nq) := ⟨rfl, rfl, rfl, Nat.le_refl _, fun _ _ => rfl⟩
                repeat' ((fail_if_success at_builtin); (first | go_skip | go_guarded | go_step))
                go_roundw
                case rel => exact ⟨i + 1, some x, (i : Int), by omega, rfl, by go_num, hb.trans (hb9.mono hb.size), by have := hb9.size; omega, hR.out.map (fun j => hb9.cell (p := ⟨w.heap.size, 0 + j, none⟩) lr), (fun j => (hb9.frozen (p := ⟨w.heap.size, j, none⟩) lr).trans (fR j)), ⟨i, rfl, hlt, hx.out⟩, hu2.out⟩
                case measure => simp [intOf]; omega
              · have hu2 : fin = bestF (keyP k) gKey (some y) (l.drop (i + 1)) := by
                  have h9 := hu.out
                  rw [bestF_cons] at h9
                  have hge : ¬ 0 ≤ gKey x y := fun h => absurd ((gKey_ge x y).1 h) (by omega)
                  simp [hsel, hge] at h9
                  exact h9
                replace hu2 := Lib.hid hu2
                have hsel : (x.key.toList == k.toList) = true := hsel
                have t1 : decide (x.sc.trust < y.sc.trust) = false := decide_eq_false ht
                have t2 : (x.sc.trust == y.sc.trust) = true := by simpa using he
                have t3 : decide (y.created ≤ x.created) = false := decide_eq_false hg
                clear ht he hg
                repeat' ((fail_if_success at_builtin); (first | go_skip | go_guarded | go_step))
                go_quiet (fail)
                have hb9 : Below wr.heap.size wr (wr.drewN nq) := ⟨rfl, rfl, rfl, Nat.le_refl _, fun _ _ => rfl⟩
                repeat' ((fail_if_success at_builtin); (first | go_skip | go_guarded | go_step))
                go_roundw
                case rel => exact ⟨i + 1, some y, (j : Int), by omega, rfl, by go_num, hb.trans (hb9.mono hb.size), by have := hb9.size; omega, hR.out.map (fun j => hb9.cell (p := ⟨w.heap.size, 0 + j, none⟩) lr), (fun j => (hb9.frozen (p := ⟨w.heap.size, j, none⟩) lr).trans (fR j)), ⟨j, rfl, hjn, hj.out⟩, hu2.out⟩
                case measure => simp [intOf]; omega
            · have hu2 : fin = bestF (keyP k) gKey (some y) (l.drop (i + 1)) := by
                have h9 := hu.out
                rw [bestF_cons] at h9
                have hge : ¬ 0 ≤ gKey x y := fun h => absurd ((gKey_ge x y).1 h) (by omega)
                simp [hsel, hge] at h9
                exact h9
              replace hu2 := Lib.hid hu2
              have hsel : (x.key.toList == k.toList) = true := hsel
              have t1 : decide (x.sc.trust < y.sc.trust) = false := decide_eq_false ht
              have t2 : (x.sc.trust == y.sc.trust) = false := by simpa using he
              clear ht he
              repeat' ((fail_if_success at_builtin); (first | go_skip | go_guarded | go_step))
              go_quiet (fail)
              have hb9 : Below wr.heap.size wr (wr.drewN nq) := ⟨rfl, rfl, rfl, Nat.le_refl _, fun _ _ => rfl⟩
              repeat' ((fail_if_success at_builtin); (first | go_skip | go_guarded | go_step))
              go_roundw
              case rel => exact ⟨i + 1, some y, (j : Int), by omega, rfl, by go_num, hb.trans (hb9.mono hb.size), by have := hb9.size; omega, hR.out.map (fun j => hb9.cell (p := ⟨w.heap.size, 0 + j, none⟩) lr), (fun j => (hb9.frozen (p := ⟨w.heap.size, j, none⟩) lr).trans (fR j)), ⟨j, rfl, hjn, hj.out⟩, hu2.out⟩
              case measure => simp [intOf]; omega
    · have i1 : ¬ ((i : Int) < (n : Int)) := by omega
      rw [List.drop_of_length_le (by have := hn.out; omega), bestF_nil] at hu
      subst hu
      clear hlt
      repeat' ((fail_if_success at_builtin); (first | go_skip | go_guarded | go_step))
      go_loopw [8, 10] (fun u8 u10 wr => ∃ (ip : Nat) (o : Option Ent) (kI : Int), ip ≤ m ∧ u8 = .int .i64 kI ∧ u10 = .int .i64 (ip : Int) ∧ Below w.heap.size w wr ∧ w.heap.size + 1 ≤ wr.heap.size ∧ CellsE wr w.heap.size 0 zeroE ∧ (∀ j, wr.frozen? ⟨w.heap.size, j, none⟩ = false) ∧ encK l n o kI ∧ restoreS l k ps = orElseE o (pfxF l (ps.drop ip))) (fun _ u10 _ => m - (intOf u10).toNat)
      case atStart => exact ⟨0, fin, kI, by omega, rfl, rfl, hb, hsz, hR, fR, henc, hrs.out⟩
      case round =>
        clear hb hsz hR fR henc hrs lr
        obtain ⟨ip, o, kI, hip, rfl, rfl, hb, hsz, hR, fR, henc, hu⟩ := hrel
        have lr : w.heap.size < wr.heap.size := by omega
        by_cases hlp : ip < m
        · cases o with
          | some y =>
            have hfin : restoreS l k ps = some y := hu
            obtain ⟨j, rfl, hjn, hj⟩ := henc
            obtain ⟨bl, off, rfl, hbB, hd⟩ := ent_at hs.out hn.out hj
            obtain ⟨d0, d1, d2, d3, d4, d5, d6, d7⟩ := hd.map (fun t => hb.cell (p := ⟨bl, off + j * 8 + t, none⟩) hbB)
            have j0 : (0 : Int) ≤ (j : Int) := by omega
            have j1 : (j : Int) < (n : Int) := by omega
            have j2 : ¬ ((j : Int) < 0) := by omega
            have lbl : bl < wr.heap.size := Nat.lt_of_lt_of_le hbB hb.size
            replace hj := Lib.hid hj
            clear hd
            replace hfin := Lib.hid hfin
            have P1 := put8_cells y hR
            have P3 := put8_below hb (Nat.le_refl w.heap.size) y
            obtain ⟨r0, r1, r2, r3, r4, r5, r6, r7⟩ := id hR
            simp only [Nat.zero_add] at r1 r2 r3 r4 r5 r6 r7
            replace P1 := Lib.hid P1
            replace P3 := Lib.hid P3
            clear hR hu
            repeat' ((fail_if_success at_builtin); (first | go_skip | go_guarded | go_step))
            have Q : CellsE _ w.heap.size 0 y := P1.out
            obtain ⟨q0, q1, q2, q3, q4, q5, q6, q7⟩ := Q
            simp only [Nat.zero_add] at q1 q2 q3 q4 q5 q6 q7
            have hbF := P3.out
            unfold put8 at q0 q1 q2 q3 q4 q5 q6 q7 hbF
            generalize World.setCell (World.setCell (World.setCell (World.setCell (World.setCell (World.setCell (World.setCell (World.setCell _ _ _) _ _) _ _) _ _) _ _) _ _) _ _) _ _ = wf at *
            refine bodyPost_ret (v := .tuple #[.agg (ent8 y), .bool true]) (by simp only [results, Tryd.results24]; go_simp; first | done | exact ⟨rfl, rfl⟩ | exact ⟨rfl, rfl, rfl, rfl, rfl, rfl, rfl, rfl⟩) rfl ?_
            exact ⟨by rw [hfin.out]; rfl, hbF⟩
          | none =>
            obtain rfl : kI = -1 := henc
            obtain ⟨bq, oq, rfl, hbq, hcq⟩ := hs2.out.2 (by omega)
            have hxi : ip < ps.length := by have := hm.out; omega
            have hq1 : ps[ip]? = some ps[ip] := List.getElem?_eq_getElem hxi
            have kw := hcq ip (.string ps[ip]) (by rw [List.getElem?_map, hq1]; rfl)
            have hstep : pfxF l (ps.drop ip) = orElseE (bestF (preP ps[ip]) gPre none l) (pfxF l (ps.drop (ip + 1))) := by
              rw [List.drop_eq_getElem_cons hxi]
              rfl
            have hst : bestF (preP ps[ip]) gPre none l = bestF (preP ps[ip]) gPre none (l.drop 0) := rfl
            generalize bestF (preP ps[ip]) gPre none l = fin at *
            generalize ps[ip] = q at *
            have p0 : (0 : Int) ≤ (ip : Int) := by omega
            have p1 : (ip : Int) < (m : Int) := by omega
            have p2 : IntKind.i64.wrap ((ip : Int) + 1) = (ip : Int) + 1 := IntWalk.i64_in _ (by omega)
            have hu : restoreS l k ps = orElseE fin (pfxF l (ps.drop (ip + 1))) := by rw [hu, hstep]; rfl
            replace hu := Lib.hid hu
            replace hst := Lib.hid hst
            clear hstep hcq hq1
            repeat' ((fail_if_success at_builtin); (first | go_skip | go_guarded | go_step))
            go_loopw [8, 11] (fun u8 uI wr => ∃ (i : Nat) (o : Option Ent) (kI : Int), i ≤ n ∧ u8 = .int .i64 kI ∧ uI = .int .i64 (i : Int) ∧ Below w.heap.size w wr ∧ w.heap.size + 1 ≤ wr.heap.size ∧ CellsE wr w.heap.size 0 zeroE ∧ (∀ j, wr.frozen? ⟨w.heap.size, j, none⟩ = false) ∧ encK l n o kI ∧ fin = bestF (preP q) gPre o (l.drop i)) (fun _ uI _ => n - (intOf uI).toNat)
            case atStart => exact ⟨0, none, -1, by omega, rfl, rfl, hb, hsz, hR, fR, rfl, hst.out⟩
            case round =>
              clear hst hb hsz hR fR lr
              have hrs := hu
              clear hu
              obtain ⟨i, o, kI, hi, rfl, rfl, hb, hsz, hR, fR, henc, hu⟩ := hrel
              have lr : w.heap.size < wr.heap.size := by omega
              by_cases hlt : i < n
              · have hlt2 : i < l.length := by have := hn.out; omega
                have hx : l[i]? = some l[i] := List.getElem?_eq_getElem hlt2
                obtain ⟨bl, off, rfl, hbB, hc⟩ := ent_at hs.out hn.out hx
                rw [List.drop_eq_getElem_cons hlt2] at hu
                obtain ⟨c0, c1, c2, c3, c4, c5, c6, c7⟩ := hc.map (fun j => hb.cell (p := ⟨bl, off + i * 8 + j, none⟩) hbB)
                generalize l[i] = x at *
                have i0 : (0 : Int) ≤ (i : Int) := by omega
                have i1 : (i : Int) < (n : Int) := by omega
                have i2 : IntKind.i64.wrap ((i : Int) + 1) = (i : Int) + 1 := IntWalk.i64_in _ (by omega)
                clear c0 c2 c4 c5 c7 hc
                have ks := (hb.cell (p := ⟨bq, oq + ip, none⟩) hbq).trans kw
                replace hu := Lib.hid hu
                replace hR := Lib.hid hR
                replace hx := Lib.hid hx
                replace henc := Lib.hid henc
                cases hsel : preP q x with
                | false =>
                  have hu2 : fin = bestF (preP q) gPre o (l.drop (i + 1)) := by
                    have h9 := hu.out
                    rw [bestF_cons] at h9
                    rw [hsel] at h9; simpa using h9
                  replace hu2 := Lib.hid hu2
                  have hsel : Lib.hasPrefix x.key.data.toList q.data.toList = false := hsel
                  have CB : ∀ w', Calls Tryd.prog 57 #[.string x.key, .string q] w' fun e w'' => e = .returned (.bool false) ∧ w'' = w' := fun w' => by have := begins_any x.key q w'; rw [hsel] at this; exact this
                  replace CB := Lib.hid CB
                  repeat' ((fail_if_success at_builtin); (first | go_skip | go_guarded | go_step))
                  go_quiet (first | (go_at_call 57; exact Calls.quiet_of_same (CB.out _)))
                  have hb9 : Below wr.heap.size wr (wr.drewN nq) := ⟨rfl, rfl, rfl, Nat.le_refl _, fun _ _ => rfl⟩
                  repeat' ((fail_if_success at_builtin); (first | go_skip | go_guarded | go_step))
                  go_roundw
                  case rel => exact ⟨i + 1, o, kI, by omega, rfl, by go_num, hb.trans (hb9.mono hb.size), by have := hb9.size; omega, hR.out.map (fun j => hb9.cell (p := ⟨w.heap.size, 0 + j, none⟩) lr), (fun j => (hb9.frozen (p := ⟨w.heap.size, j, none⟩) lr).trans (fR j)), henc.out, hu2.out⟩
                  case measure => simp [intOf]; omega
                | true =>
                  cases o with
                  | none =>
                    have hu2 : fin = bestF (preP q) gPre (some x) (l.drop (i + 1)) := by
                      have h9 := hu.out
                      rw [bestF_cons] at h9
                      rw [hsel] at h9; simpa using h9
                    replace hu2 := Lib.hid hu2
                    have hsel : Lib.hasPrefix x.key.data.toList q.data.toList = true := hsel
                    obtain rfl : kI = -1 := henc.out
                    have d0 : decide ((-1 : Int) < 0) = true := rfl
                    have CB : ∀ w', Calls Tryd.prog 57 #[.string x.key, .string q] w' fun e w'' => e = .returned (.bool true) ∧ w'' = w' := fun w' => by have := begins_any x.key q w'; rw [hsel] at this; exact this
                    replace CB := Lib.hid CB
                    repeat' ((fail_if_success at_builtin); (first | go_skip | go_guarded | go_step))
                    go_quiet (first | (go_at_call 57; exact Calls.quiet_of_same (CB.out _)))
                    have hb9 : Below wr.heap.size wr (wr.drewN nq) := ⟨rfl, rfl, rfl, Nat.le_refl _, fun _ _ => rfl⟩
                    repeat' ((fail_if_success at_builtin); (first | go_skip | go_guarded | go_step))
                    go_roundw
                    case rel => exact ⟨i + 1, some x, (i : Int), by omega, rfl, by go_num, hb.trans (hb9.mono hb.size), by have := hb9.size; omega, hR.out.map (fun j => hb9.cell (p := ⟨w.heap.size, 0 + j, none⟩) lr), (fun j => (hb9.frozen (p := ⟨w.heap.size, j, none⟩) lr).trans (fR j)), ⟨i, rfl, hlt, hx.out⟩, hu2.out⟩
                    case measure => simp [intOf]; omega
                  | some y =>
                    obtain ⟨j, rfl, hjn, hj⟩ := henc.out
                    obtain ⟨b2, off2, heq, hb2, hd⟩ := ent_at hs.out hn.out hj
                    cases heq
                    obtain ⟨d0, d1, d2, d3, d4, d5, d6, d7⟩ := hd.map (fun t => hb.cell (p := ⟨bl, off + j * 8 + t, none⟩) hb2)
                    have j0 : (0 : Int) ≤ (j : Int) := by omega
                    have j1 : (j : Int) < (n : Int) := by omega
                    have j2 : decide ((j : Int) < 0) = false := decide_eq_false (by omega)
                    clear d0 d2 d3 d4 d5 d7
                    replace hj := Lib.hid hj
                    by_cases ht : y.created < x.created
                    · have hu2 : fin = bestF (preP q) gPre (some x) (l.drop (i + 1)) := by
                        have h9 := hu.out
                        rw [bestF_cons] at h9
                        have hge := (gPre_ge x y).2 (.inl ht)
                        simp [hsel, hge] at h9
                        exact h9
                      replace hu2 := Lib.hid hu2
                      have hsel : Lib.hasPrefix x.key.data.toList q.data.toList = true := hsel
                      have t1 : decide (y.created < x.created) = true := decide_eq_true ht
                      have CB : ∀ w', Calls Tryd.prog 57 #[.string x.key, .string q] w' fun e w'' => e = .returned (.bool true) ∧ w'' = w' := fun w' => by have := begins_any x.key q w'; rw [hsel] at this; exact this
                      replace CB := Lib.hid CB
                      clear ht
                      repeat' ((fail_if_success at_builtin); (first | go_skip | go_guarded | go_step))
                      go_quiet (first | (go_at_call 57; exact Calls.quiet_of_same (CB.out _)))
                      have hb9 : Below wr.heap.size wr (wr.drewN nq) := ⟨rfl, rfl, rfl, Nat.le_refl _, fun _ _ => rfl⟩
                      repeat' ((fail_if_success at_builtin); (first | go_skip | go_guarded | go_step))
                      go_roundw
                      case rel => exact ⟨i + 1, some x, (i : Int), by omega, rfl, by go_num, hb.trans (hb9.mono hb.size), by have := hb9.size; omega, hR.out.map (fun j => hb9.cell (p := ⟨w.heap.size, 0 + j, none⟩) lr), (fun j => (hb9.frozen (p := ⟨w.heap.size, j, none⟩) lr).trans (fR j)), ⟨i, rfl, hlt, hx.out⟩, hu2.out⟩
                      case measure => simp [intOf]; omega
                    · by_cases he : x.created = y.created
                      · by_cases hg : x.sc.trust ≤ y.sc.trust
                        · have hu2 : fin = bestF (preP q) gPre (some x) (l.drop (i + 1)) := by
                            have h9 := hu.out
                            rw [bestF_cons] at h9
                            have hge := (gPre_ge x y).2 (.inr ⟨he, hg⟩)
                            simp [hsel, hge] at h9
                            exact h9
                          replace hu2 := Lib.hid hu2
                          have hsel : Lib.hasPrefix x.key.data.toList q.data.toList = true := hsel
                          have t1 : decide (y.created < x.created) = false := decide_eq_false ht
                          have t2 : (x.created == y.created) = true := by simpa using he
                          have t3 : decide (x.sc.trust ≤ y.sc.trust) = true := decide_eq_true hg
                          have CB : ∀ w', Calls Tryd.prog 57 #[.string x.key, .string q] w' fun e w'' => e = .returned (.bool true) ∧ w'' = w' := fun w' => by have := begins_any x.key q w'; rw [hsel] at this; exact this
                          replace CB := Lib.hid CB
                          clear ht he hg
                          repeat' ((fail_if_success at_builtin); (first | go_skip | go_guarded | go_step))
                          go_quiet (first | (go_at_call 57; exact Calls.quiet_of_same (CB.out _)))
                          have hb9 : Below wr.heap.size wr (wr.drewN nq) := ⟨rfl, rfl, rfl, Nat.le_refl _, fun _ _ => rfl⟩
                          repeat' ((fail_if_success at_builtin); (first | go_skip | go_guarded | go_step))
                          go_roundw
                          case rel => exact ⟨i + 1, some x, (i : Int), by omega, rfl, by go_num, hb.trans (hb9.mono hb.size), by have := hb9.size; omega, hR.out.map (fun j => hb9.cell (p := ⟨w.heap.size, 0 + j, none⟩) lr), (fun j => (hb9.frozen (p := ⟨w.heap.size, j, none⟩) lr).trans (fR j)), ⟨i, rfl, hlt, hx.out⟩, hu2.out⟩
                          case measure => simp [intOf]; omega
                        · have hu2 : fin = bestF (preP q) gPre (some y) (l.drop (i + 1)) := by
                            have h9 := hu.out
                            rw [bestF_cons] at h9
                            have hge : ¬ 0 ≤ gPre x y := fun h => absurd ((gPre_ge x y).1 h) (by omega)
                            simp [hsel, hge] at h9
                            exact h9
                          replace hu2 := Lib.hid hu2
                          have hsel : Lib.hasPrefix x.key.data.toList q.data.toList = true := hsel
                          have t1 : decide (y.created < x.created) = false := decide_eq_false ht
                          have t2 : (x.created == y.created) = true := by simpa using he
                          have t3 : decide (x.sc.trust ≤ y.sc.trust) = false := decide_eq_false hg
                          have CB : ∀ w', Calls Tryd.prog 57 #[.string x.key, .string q] w' fun e w'' => e = .returned (.bool true) ∧ w'' = w' := fun w' => by have := begins_any x.key q w'; rw [hsel] at this; exact this
                          replace CB := Lib.hid CB
                          clear ht he hg
                          repeat' ((fail_if_success at_builtin); (first | go_skip | go_guarded | go_step))
                          go_quiet (first | (go_at_call 57; exact Calls.quiet_of_same (CB.out _)))
                          have hb9 : Below wr.heap.size wr (wr.drewN nq) := ⟨rfl, rfl, rfl, Nat.le_refl _, fun _ _ => rfl⟩
                          repeat' ((fail_if_success at_builtin); (first | go_skip | go_guarded | go_step))
                          go_roundw
                          case rel => exact ⟨i + 1, some y, (j : Int), by omega, rfl, by go_num, hb.trans (hb9.mono hb.size), by have := hb9.size; omega, hR.out.map (fun j => hb9.cell (p := ⟨w.heap.size, 0 + j, none⟩) lr), (fun j => (hb9.frozen (p := ⟨w.heap.size, j, none⟩) lr).trans (fR j)), ⟨j, rfl, hjn, hj.out⟩, hu2.out⟩
                          case measure => simp [intOf]; omega
                      · have hu2 : fin = bestF (preP q) gPre (some y) (l.drop (i + 1)) := by
                          have h9 := hu.out
                          rw [bestF_cons] at h9
                          have hge : ¬ 0 ≤ gPre x y := fun h => absurd ((gPre_ge x y).1 h) (by omega)
                          simp [hsel, hge] at h9
                          exact h9
                        replace hu2 := Lib.hid hu2
                        have hsel : Lib.hasPrefix x.key.data.toList q.data.toList = true := hsel
                        have t1 : decide (y.created < x.created) = false := decide_eq_false ht
                        have t2 : (x.created == y.created) = false := by simpa using he
                        have CB : ∀ w', Calls Tryd.prog 57 #[.string x.key, .string q] w' fun e w'' => e = .returned (.bool true) ∧ w'' = w' := fun w' => by have := begins_any x.key q w'; rw [hsel] at this; exact this
                        replace CB := Lib.hid CB
                        clear ht he
                        repeat' ((fail_if_success at_builtin); (first | go_skip | go_guarded | go_step))
                        go_quiet (first | (go_at_call 57; exact Calls.quiet_of_same (CB.out _)))
                        have hb9 : Below wr.heap.size wr (wr.drewN nq) := ⟨rfl, rfl, rfl, Nat.le_refl _, fun _ _ => rfl⟩
                        repeat' ((fail_if_success at_builtin); (first | go_skip | go_guarded | go_step))
                        go_roundw
                        case rel => exact ⟨i + 1, some y, (j : Int), by omega, rfl, by go_num, hb.trans (hb9.mono hb.size), by have := hb9.size; omega, hR.out.map (fun j => hb9.cell (p := ⟨w.heap.size, 0 + j, none⟩) lr), (fun j => (hb9.frozen (p := ⟨w.heap.size, j, none⟩) lr).trans (fR j)), ⟨j, rfl, hjn, hj.out⟩, hu2.out⟩
                        case measure => simp [intOf]; omega
              · have i1 : ¬ ((i : Int) < (n : Int)) := by omega
                rw [List.drop_of_length_le (by have := hn.out; omega), bestF_nil] at hu
                subst hu
                clear hlt
                repeat' ((fail_if_success at_builtin); (first | go_skip | go_guarded | go_step))
                go_roundw
                case rel => exact ⟨ip + 1, fin, kI, by omega, rfl, by go_num, hb, hsz, hR, fR, henc, hrs.out⟩
                case measure => simp [intOf]; omega
        · have p1 : ¬ ((ip : Int) < (m : Int)) := by omega
          have hnil : ps.drop ip = [] := List.drop_of_length_le (by have := hm.out; omega)
          cases o with
          | some y =>
            have hfin : restoreS l k ps = some y := by rw [hu, hnil]; rfl
            obtain ⟨j, rfl, hjn, hj⟩ := henc
            obtain ⟨bl, off, rfl, hbB, hd⟩ := ent_at hs.out hn.out hj
            obtain ⟨d0, d1, d2, d3, d4, d5, d6, d7⟩ := hd.map (fun t => hb.cell (p := ⟨bl, off + j * 8 + t, none⟩) hbB)
            have j0 : (0 : Int) ≤ (j : Int) := by omega
            have j1 : (j : Int) < (n : Int) := by omega
            have j2 : ¬ ((j : Int) < 0) := by omega
            have lbl : bl < wr.heap.size := Nat.lt_of_lt_of_le hbB hb.size
            replace hj := Lib.hid hj
            clear hd
            replace hfin := Lib.hid hfin
            have P1 := put8_cells y hR
            have P3 := put8_below hb (Nat.le_refl w.heap.size) y
            obtain ⟨r0, r1, r2, r3, r4, r5, r6, r7⟩ := id hR
            simp only [Nat.zero_add] at r1 r2 r3 r4 r5 r6 r7
            replace P1 := Lib.hid P1
            replace P3 := Lib.hid P3
            clear hR hu
            repeat' ((fail_if_success at_builtin); (first | go_skip | go_guarded | go_step))
            have Q : CellsE _ w.heap.size 0 y := P1.out
            obtain ⟨q0, q1, q2, q3, q4, q5, q6, q7⟩ := Q
            simp only [Nat.zero_add] at q1 q2 q3 q4 q5 q6 q7
            have hbF := P3.out
            unfold put8 at q0 q1 q2 q3 q4 q5 q6 q7 hbF
            generalize World.setCell (World.setCell (World.setCell (World.setCell (World.setCell (World.setCell (World.setCell (World.setCell _ _ _) _ _) _ _) _ _) _ _) _ _) _ _) _ _ = wf at *
            refine bodyPost_ret (v := .tuple #[.agg (ent8 y), .bool true]) (by simp only [results, Tryd.results24]; go_simp; first | done | exact ⟨rfl, rfl⟩ | exact ⟨rfl, rfl, rfl, rfl, rfl, rfl, rfl, rfl⟩) rfl ?_
            exact ⟨by rw [hfin.out]; rfl, hbF⟩
          | none =>
            have hfin : restoreS l k ps = none := by rw [hu, hnil]; rfl
            obtain rfl : kI = -1 := henc
            replace hfin := Lib.hid hfin
            have P1 := put8_cells zeroE hR
            have P3 := put8_below hb (Nat.le_refl w.heap.size) zeroE
            obtain ⟨r0, r1, r2, r3, r4, r5, r6, r7⟩ := id hR
            simp only [Nat.zero_add] at r1 r2 r3 r4 r5 r6 r7
            replace P1 := Lib.hid P1
            replace P3 := Lib.hid P3
            clear hR hu
            repeat' ((fail_if_success at_builtin); (first | go_skip | go_guarded | go_step))
            have Q : CellsE _ w.heap.size 0 zeroE := P1.out
            obtain ⟨q0, q1, q2, q3, q4, q5, q6, q7⟩ := Q
            simp only [Nat.zero_add] at q1 q2 q3 q4 q5 q6 q7
            have hbF := P3.out
            unfold put8 at q0 q1 q2 q3 q4 q5 q6 q7 hbF
            unfold zeroE at q0 q1 q2 q3 q4 q5 q6 q7 hbF
            generalize World.setCell (World.setCell (World.setCell (World.setCell (World.setCell (World.setCell (World.setCell (World.setCell _ _ _) _ _) _ _) _ _) _ _) _ _) _ _) _ _ = wf at *
            refine bodyPost_ret (v := .tuple #[.agg (ent8 zeroE), .bool false]) (by simp only [results, Tryd.results24]; go_simp; first | done | exact ⟨rfl, rfl⟩ | exact ⟨rfl, rfl, rfl, rfl, rfl, rfl, rfl, rfl⟩) rfl ?_
            exact ⟨by rw [hfin.out]; rfl, hbF⟩
end Go.Proofs.YtpdlapdnjmoaoaaDoor
