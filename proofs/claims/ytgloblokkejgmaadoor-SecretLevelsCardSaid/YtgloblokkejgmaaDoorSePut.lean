/- Secret: Put. -/
import Derived.Test.YtgloblokkejgmaaDoorSeV
import Derived.Test.YtgloblokkejgmaaDoorSeN
namespace Go.Proofs.YtgloblokkejgmaaDoor
open Go.RowKit
theorem insR_any (l : List Sec) (n c i : Nat) (A : Option Addr) (x : Sec) (A1 : Option Addr) (c1 : Nat) (A2 : Option Addr) (c2 : Nat) (w0 w wb : World) (H : OwnR rSec 5 w0 w secT (.slice A n c) l) (hb : Below w.heap.size w wb) (hx : rSec wb (Beh wb (.slice A n c)) x [.string x.name, .string x.text, .int .i64 x.level, .slice A1 x.refs.length c1, .slice A2 x.envs.length c2]) (hn : l.length = n) (hi : i ≤ n) (hl : n ≤ 1000000) :
    Calls Tryd.prog 38 #[.slice A n c, .int .i64 (i : Int), .slice (some ⟨wb.heap.size, 0, none⟩) 1 1] (wb.alloc (.cells #[.string x.name, .string x.text, .int .i64 x.level, .slice A1 x.refs.length c1, .slice A2 x.envs.length c2] secT)) fun e w' => ∃ A' c', e = .returned (.slice A' (n + 1) c') ∧ RSlice rSec 5 w' (fun b => b < w'.heap.size) A' (n + 1) c' (l.take i ++ x :: l.drop i) ∧ Below w0.heap.size w0 w' := by
  subst hn
  obtain ⟨cs, H1, H2⟩ := H.below rSec_ok hb
  have hl' : cs.length = l.length * 5 := H1.1.1
  refine (insC_any cs [.string x.name, .string x.text, .int .i64 x.level, .slice A1 x.refs.length c1, .slice A2 x.envs.length c2] l.length c i A w0 wb H1 hi hl rfl (RList.one_cell (fun x c hc => rSec_one hc) H2) (rSec_one hx)).mono ?_
  rintro e w' ⟨A', c', rfl, hs, hc, hg⟩
  have hz : (wb.alloc (.cells #[.string x.name, .string x.text, .int .i64 x.level, .slice A1 x.refs.length c1, .slice A2 x.envs.length c2] 24)).heap.size = wb.heap.size + 1 := by simp
  have hba := (Below.refl wb.heap.size wb).alloc (Nat.le_refl _) (.cells #[.string x.name, .string x.text, .int .i64 x.level, .slice A1 x.refs.length c1, .slice A2 x.envs.length c2] secT)
  have hzz := hg.size
  have hcell : ∀ p : Addr, Beh wb (.slice A l.length c) p.block → w'.cell? p = wb.cell? p := fun p hp => (World.cell?_of_block (hg.block p.block (by have := hp.1; omega) hp.2)).trans (hba.cell hp.1)
  have hS : ∀ b, Beh wb (.slice A l.length c) b → b < w'.heap.size := fun b hp => by have := hp.1; omega
  have hmv : ∀ (y : Sec) (cy : List Value), rSec wb (Beh wb (.slice A l.length c)) y cy → rSec w' (fun b => b < w'.heap.size) y cy := fun y cy h => rSec_ok _ _ _ _ y cy hcell hS h
  refine ⟨A', c', rfl, ⟨by simp [List.length_take, List.length_drop]; omega, hc, fun h0 => ?_, _, hs.imp (fun b h => h.2), ?_⟩, ?_⟩
  · obtain ⟨b, o, hA, _⟩ := hs.2 (by omega)
    rw [h0] at hA; cases hA
  · have h1 := (H2.take_ i).map (fun y cy h => hmv y cy h)
    have h2 := (H2.drop_ i).map (fun y cy h => hmv y cy h)
    have h3 : RList rSec 5 w' (fun b => b < w'.heap.size) [x] [.string x.name, .string x.text, .int .i64 x.level, .slice A1 x.refs.length c1, .slice A2 x.envs.length c2] := RList.one (hmv x _ hx) rfl
    have := h1.append (h3.append h2)
    rw [List.append_assoc]
    exact this
  · exact (H1.2.trans (hba.mono H1.2.size)).grown hg (Nat.le_trans H1.2.size hba.size) (fun k hk => (H1.1.lt k hk).1)
theorem eg_put1 : ∀ args w, (callFunc 34 args).run Tryd.prog w = .ok (.enter 34 args) w := enters_of Tryd.func34 (by kernel_rfl) rfl
theorem eg_put2 : ∀ args w, (callFunc 36 args).run Tryd.prog w = .ok (.enter 36 args) w := enters_of Tryd.func36 (by kernel_rfl) rfl
theorem eg_miss1 : ∀ args w, (callFunc 49 args).run Tryd.prog w = .ok (.enter 49 args) w := enters_of Tryd.func49 (by kernel_rfl) rfl
def RetPut (w : World) (v : Int) (l : List Sec) (x : Sec) (e : Ending) (w' : World) : Prop := ∃ A' n' c', e = .returned (.tuple #[.slice A' n' c', .int .i64 (putE v l x)]) ∧ RSlice rSec 5 w' (fun b => b < w'.heap.size) A' n' c' (putR v l x) ∧ Below w.heap.size w w'
theorem ret_err {w w' : World} {v : Int} {l : List Sec} {x : Sec} {A : Option Addr} {n c : Nat} {k : Int} (hk : putE v l x = k) (h0 : k ≠ 0) (hr : RSlice rSec 5 w' (fun b => b < w'.heap.size) A n c l) (hb : Below w.heap.size w w') : RetPut w v l x (.returned (.tuple #[.slice A n c, .int .i64 k])) w' := by
  subst hk
  exact ⟨A, n, c, rfl, by unfold putR; rw [if_pos h0]; exact hr, hb⟩
theorem ret_ok {w w' : World} {v : Int} {l m : List Sec} {x : Sec} {A : Option Addr} {n c : Nat} (hk : putE v l x = 0) (hm : putL l x = m) (hr : RSlice rSec 5 w' (fun b => b < w'.heap.size) A n c m) (hb : Below w.heap.size w w') : RetPut w v l x (.returned (.tuple #[.slice A n c, .int .i64 0])) w' := by
  refine ⟨A, n, c, by rw [hk], ?_, hb⟩
  unfold putR
  rw [if_neg (by rw [hk]; simp), hm]
  exact hr
theorem putE_bad {v : Int} {l : List Sec} {x : Sec} (h : v ≠ 0) : putE v l x = v := by unfold putE; rw [if_pos h]
theorem putE_hit {l : List Sec} {x : Sec} (h : posA (sameN x.nm) l < l.length) : putE 0 l x = 0 := by unfold putE; rw [if_neg (by simp), if_pos h]
theorem putE_full {l : List Sec} {x : Sec} (h : ¬ posA (sameN x.nm) l < l.length) (h2 : 64 ≤ l.length) : putE 0 l x = 15 := by unfold putE; rw [if_neg (by simp), if_neg h, if_pos h2]
theorem putE_new {l : List Sec} {x : Sec} (h : ¬ posA (sameN x.nm) l < l.length) (h2 : ¬ 64 ≤ l.length) : putE 0 l x = 0 := by unfold putE; rw [if_neg (by simp), if_neg h, if_neg h2]
theorem putL_hit {l : List Sec} {x : Sec} (h : posA (sameN x.nm) l < l.length) : putL l x = l.set (posA (sameN x.nm) l) x := by unfold putL; rw [if_pos h]
theorem putL_new {l : List Sec} {x : Sec} (h : ¬ posA (sameN x.nm) l < l.length) : putL l x = l.take (posA (aftN x.nm) l) ++ x :: l.drop (posA (aftN x.nm) l) := by unfold putL; rw [if_neg h]
set_option maxRecDepth 100000 in
set_option maxHeartbeats 6000000 in
theorem put_any (l : List Sec) (A : Option Addr) (n c : Nat) (x : Sec) (A1 : Option Addr) (c1 : Nat) (A2 : Option Addr) (c2 : Nat) (w : World) (h : Secs w A n c l) (h1 : StrsR w (fun b => b < w.heap.size) A1 c1 x.refs) (h2 : StrsR w (fun b => b < w.heap.size) A2 c2 x.envs) (hx : SecW x) :
    Calls Tryd.prog 13 #[.slice A n c, .agg #[.string x.name, .string x.text, .int .i64 x.level, .slice A1 x.refs.length c1, .slice A2 x.envs.length c2]] w (RetPut w (vE x) l x) := by
  have hn := h.n
  have hl := h.len
  subst hn
  obtain ⟨v, hv⟩ : ∃ v, v = vE x := ⟨_, rfl⟩
  rw [← hv]
  replace hv := Lib.hid hv
  go_enter Tryd.func13, Tryd.ntmps13
  go_upto_region 1 with (fail)
  generalize hx_ : World.alloc w _ = wo1
  have hO1 : OwnB w wo1 [(w.heap.size, [.string x.name, .string x.text, .int .i64 x.level, .slice A1 x.refs.length c1, .slice A2 x.envs.length c2])] := by rw [← hx_]; exact (OwnB.refl w).new #[.string x.name, .string x.text, .int .i64 x.level, .slice A1 x.refs.length c1, .slice A2 x.envs.length c2] _ (g := w.heap.size)
  have hbn : Below w.heap.size w wo1 := by rw [← hx_]; exact (Below.refl _ _).alloc (Nat.le_refl _) _
  have zwo1 : wo1.heap.size = w.heap.size + 1 := by rw [← hx_]; simp
  clear hx_
  have c0_0 : wo1.cell? ⟨w.heap.size, 0, none⟩ = some (.string x.name) := hO1.c 0 0
  have c0_1 : wo1.cell? ⟨w.heap.size, 1, none⟩ = some (.string x.text) := hO1.c 0 1
  have c0_2 : wo1.cell? ⟨w.heap.size, 2, none⟩ = some (.int .i64 x.level) := hO1.c 0 2
  have c0_3 : wo1.cell? ⟨w.heap.size, 3, none⟩ = some (.slice A1 x.refs.length c1) := hO1.c 0 3
  have c0_4 : wo1.cell? ⟨w.heap.size, 4, none⟩ = some (.slice A2 x.envs.length c2) := hO1.c 0 4
  have cf0 := hO1.fr 0
  clear hbn
  have hz := hO1.below
  have h' : Secs wo1 A l.length c l := h.below (by exact hz)
  repeat' ((fail_if_success at_builtin); (first | go_skip | go_guarded | go_step))
  refine (all_any l A l.length c wo1 h').mono ?_
  clear h'
  rintro e w1 ⟨B, d, rfl, hR⟩
  dsimp only
  have hb1 : Below wo1.heap.size wo1 w1 := hR.bel
  have zw1 := hb1.size
  have hO2 : OwnB w w1 [(w.heap.size, [.string x.name, .string x.text, .int .i64 x.level, .slice A1 x.refs.length c1, .slice A2 x.envs.length c2])] := hO1.kept hb1
  clear c0_0 c0_1 c0_2 c0_3 c0_4 cf0 hO1
  have c0_0 : w1.cell? ⟨w.heap.size, 0, none⟩ = some (.string x.name) := hO2.c 0 0
  have c0_1 : w1.cell? ⟨w.heap.size, 1, none⟩ = some (.string x.text) := hO2.c 0 1
  have c0_2 : w1.cell? ⟨w.heap.size, 2, none⟩ = some (.int .i64 x.level) := hO2.c 0 2
  have c0_3 : w1.cell? ⟨w.heap.size, 3, none⟩ = some (.slice A1 x.refs.length c1) := hO2.c 0 3
  have c0_4 : w1.cell? ⟨w.heap.size, 4, none⟩ = some (.slice A2 x.envs.length c2) := hO2.c 0 4
  have cf0 := hO2.fr 0
  have hbw := hO2.below
  have C := valid_any x A1 c1 A2 c2 w1 (h1.map (fun _ hp => hbw.cell hp) (fun b hb => Nat.lt_of_lt_of_le hb hbw.size)) (h2.map (fun _ hp => hbw.cell hp) (fun b hb => Nat.lt_of_lt_of_le hb hbw.size)) hx
  rw [← hv.out] at C
  replace C := Lib.hid C
  repeat' ((fail_if_success at_builtin); (first | go_skip | go_guarded | go_step))
  refine C.out.mono ?_
  clear C
  rintro e w2 ⟨rfl, hb2⟩
  dsimp only
  have hR2 := hR.below rSec_ok hb2
  have hs2 := hR2.slice rSec_ok
  clear hR
  clear hbw
  have zw2 := hb2.size
  have hO3 : OwnB w w2 [(w.heap.size, [.string x.name, .string x.text, .int .i64 x.level, .slice A1 x.refs.length c1, .slice A2 x.envs.length c2])] := hO2.kept hb2
  clear c0_0 c0_1 c0_2 c0_3 c0_4 cf0 hO2
  have c0_0 : w2.cell? ⟨w.heap.size, 0, none⟩ = some (.string x.name) := hO3.c 0 0
  have c0_1 : w2.cell? ⟨w.heap.size, 1, none⟩ = some (.string x.text) := hO3.c 0 1
  have c0_2 : w2.cell? ⟨w.heap.size, 2, none⟩ = some (.int .i64 x.level) := hO3.c 0 2
  have c0_3 : w2.cell? ⟨w.heap.size, 3, none⟩ = some (.slice A1 x.refs.length c1) := hO3.c 0 3
  have c0_4 : w2.cell? ⟨w.heap.size, 4, none⟩ = some (.slice A2 x.envs.length c2) := hO3.c 0 4
  have cf0 := hO3.fr 0
  have hbw := hO3.below
  by_cases hv0 : v = 0
  · subst hv0
    have hS : Secs w2 B l.length d l := ⟨hs2, hl, h.each⟩
    have C := idxS_any 34 w.heap.size eg_put1 (sameN x.nm) l B l.length d w2 hS (fun y hy a1 d1 a2 d2 w' hw => put1_any y a1 d1 a2 d2 x.name w.heap.size w' ((hw.cell (p := ⟨w.heap.size, 0, none⟩) (hO3.lt 0)).trans c0_0))
    replace C := Lib.hid C
    clear hS hs2
    repeat' ((fail_if_success at_builtin); (first | go_skip | go_guarded | go_step))
    refine C.out.mono ?_
    clear C
    rintro e w3 ⟨rfl, hb3⟩
    dsimp only
    have hR3 := hR2.below rSec_ok hb3
    clear hR2 hbw
    have zw3 := hb3.size
    have hO4 : OwnB w w3 [(w.heap.size, [.string x.name, .string x.text, .int .i64 x.level, .slice A1 x.refs.length c1, .slice A2 x.envs.length c2])] := hO3.kept hb3
    clear c0_0 c0_1 c0_2 c0_3 c0_4 cf0 hO3
    have c0_0 : w3.cell? ⟨w.heap.size, 0, none⟩ = some (.string x.name) := hO4.c 0 0
    have c0_1 : w3.cell? ⟨w.heap.size, 1, none⟩ = some (.string x.text) := hO4.c 0 1
    have c0_2 : w3.cell? ⟨w.heap.size, 2, none⟩ = some (.int .i64 x.level) := hO4.c 0 2
    have c0_3 : w3.cell? ⟨w.heap.size, 3, none⟩ = some (.slice A1 x.refs.length c1) := hO4.c 0 3
    have c0_4 : w3.cell? ⟨w.heap.size, 4, none⟩ = some (.slice A2 x.envs.length c2) := hO4.c 0 4
    have cf0 := hO4.fr 0
    have hbw := hO4.below
    by_cases hp : posA (sameN x.nm) l < l.length
    · have hi : posI (sameN x.nm) l = ((posA (sameN x.nm) l : Nat) : Int) := by unfold posI; rw [if_pos hp]
      have hE := putE_hit hp
      have hL := putL_hit hp
      generalize posA (sameN x.nm) l = i at *
      rw [hi]
      have i0 : (0 : Int) ≤ (i : Int) := by omega
      have i1 : (i : Int) < (l.length : Int) := by omega
      have C := copied_any x A1 c1 A2 c2 w3 (h1.map (fun _ hp => hbw.cell hp) (fun b hb => Nat.lt_of_lt_of_le hb hbw.size)) (h2.map (fun _ hp => hbw.cell hp) (fun b hb => Nat.lt_of_lt_of_le hb hbw.size)) (by have := hx.refs; omega) (by have := hx.envs; omega)
      replace C := Lib.hid C
      replace hE := Lib.hid hE
      replace hL := Lib.hid hL
      obtain ⟨g, rfl, hg1, hg2, hgf⟩ := hR3.head rfl (by omega)
      repeat' ((fail_if_success at_builtin); (first | go_skip | go_guarded | go_step))
      refine C.out.mono ?_
      clear C
      rintro e w4 ⟨B1, d1, B2, d2, rfl, hs1, hs2, hb4⟩
      dsimp only
      have hR4 := hR3.below rSec_ok hb4
      have hrd := sec_rd (hs1.imp (fun b h => beh_lo hR3 h.1 h.2)) (hs2.imp (fun b h => beh_lo hR3 h.1 h.2))
      have hfin := hR4.set rSec_ok (by omega) rfl hp hrd rfl
      obtain ⟨y, hy⟩ : ∃ y, l[i]? = some y := ⟨_, List.getElem?_eq_getElem hp⟩
      obtain ⟨g', o', a1, k1, a2, k2, hge, _, hSA⟩ := sec_at (hR4.slice rSec_ok) hy
      obtain ⟨rfl, rfl⟩ : g' = g ∧ o' = 0 := by injection hge with hge; injection hge with h1 h2; exact ⟨h1.symm, h2.symm⟩
      have y0 := hSA.e0
      have y1 := hSA.e1
      have y2 := hSA.e2
      have y3 := hSA.e3
      have y4 := hSA.e4
      rw [Nat.zero_add] at y0 y1 y2 y3 y4
      have yf : ∀ j, w4.frozen? ⟨g', j, none⟩ = false := fun j => (hb4.frozen (p := ⟨g', j, none⟩) hg2).trans (hgf j)
      have hbf := hbw.trans (hb4.mono hbw.size)
      have hlen : l.length = (l.set i x).length := by rw [List.length_set]
      have hsl : RSlice rSec 5 (w4.setCells g' (i * 5) [.string x.name, .string x.text, .int .i64 x.level, .slice B1 x.refs.length d1, .slice B2 x.envs.length d2]) (fun b => b < (w4.setCells g' (i * 5) [.string x.name, .string x.text, .int .i64 x.level, .slice B1 x.refs.length d1, .slice B2 x.envs.length d2]).heap.size) (some ⟨g', 0, none⟩) l.length d (l.set i x) := by
        rw [hlen] at hfin ⊢
        exact hfin.slice rSec_ok
      have hbg := setCells_below (g := g') (B := w.heap.size) (by have := hg1; omega) [.string x.name, .string x.text, .int .i64 x.level, .slice B1 x.refs.length d1, .slice B2 x.envs.length d2] (i * 5) w4 hbf
      replace hsl := Lib.hid hsl
      replace hbg := Lib.hid hbg
      clear hfin hR3 hR4 hs1 hs2 hrd hSA hgf hlen hi hy hp
      repeat' ((fail_if_success at_builtin); (first | go_skip | go_guarded | go_step))
      go_ret2
      exact ret_ok hE.out hL.out hsl.out hbg.out
    · have hi : posI (sameN x.nm) l = -1 := by unfold posI; rw [if_neg hp]
      rw [hi]
      clear hi
      by_cases h64 : 64 ≤ l.length
      · have hE := putE_full hp h64
        have hs3 := hR3.slice rSec_ok
        have h64' : (64 : Int) ≤ (l.length : Int) := by omega
        replace hE := Lib.hid hE
        replace hs3 := Lib.hid hs3
        repeat' ((fail_if_success at_builtin); (first | go_skip | go_guarded | go_step))
        go_ret2
        exact ret_err hE.out (by decide) hs3.out hbw
      · have hE := putE_new hp h64
        have hL := putL_new hp
        have h64' : ¬ (64 : Int) ≤ (l.length : Int) := by omega
        replace hE := Lib.hid hE
        have hS : Secs w3 B l.length d l := ⟨hR3.slice rSec_ok, hl, h.each⟩
        have C := idxS_any 36 w.heap.size eg_put2 (aftN x.nm) l B l.length d w3 hS (fun y hy a1 d1 a2 d2 w' hw => put2_any y a1 d1 a2 d2 x.name w.heap.size w' ((hw.cell (p := ⟨w.heap.size, 0, none⟩) (hO4.lt 0)).trans c0_0) (by have := (h.each y hy).name; omega) (by have := hx.name; omega))
        replace C := Lib.hid C
        replace hL := Lib.hid hL
        clear hS
        repeat' ((fail_if_success at_builtin); (first | go_skip | go_guarded | go_step))
        refine C.out.mono ?_
        clear C
        rintro e w5 ⟨rfl, hb5⟩
        dsimp only
        have hR5 := hR3.below rSec_ok hb5
        have hple := posA_le (aftN x.nm) l
        clear hR3
        clear hbw
        have zw5 := hb5.size
        have hO5 : OwnB w w5 [(w.heap.size, [.string x.name, .string x.text, .int .i64 x.level, .slice A1 x.refs.length c1, .slice A2 x.envs.length c2])] := hO4.kept hb5
        clear c0_0 c0_1 c0_2 c0_3 c0_4 cf0 hO4
        have c0_0 : w5.cell? ⟨w.heap.size, 0, none⟩ = some (.string x.name) := hO5.c 0 0
        have c0_1 : w5.cell? ⟨w.heap.size, 1, none⟩ = some (.string x.text) := hO5.c 0 1
        have c0_2 : w5.cell? ⟨w.heap.size, 2, none⟩ = some (.int .i64 x.level) := hO5.c 0 2
        have c0_3 : w5.cell? ⟨w.heap.size, 3, none⟩ = some (.slice A1 x.refs.length c1) := hO5.c 0 3
        have c0_4 : w5.cell? ⟨w.heap.size, 4, none⟩ = some (.slice A2 x.envs.length c2) := hO5.c 0 4
        have cf0 := hO5.fr 0
        have hbw5 := hO5.below
        by_cases hq : posA (aftN x.nm) l < l.length
        · have hi2 : posI (aftN x.nm) l = ((posA (aftN x.nm) l : Nat) : Int) := by unfold posI; rw [if_pos hq]
          rw [hi2]
          generalize posA (aftN x.nm) l = i at *
          have i0 : ¬ (i : Int) < 0 := by omega
          have hi : i ≤ l.length := by omega
          have C := copied_any x A1 c1 A2 c2 w5 (h1.map (fun _ hp => hbw5.cell hp) (fun b hb => Nat.lt_of_lt_of_le hb hbw5.size)) (h2.map (fun _ hp => hbw5.cell hp) (fun b hb => Nat.lt_of_lt_of_le hb hbw5.size)) (by have := hx.refs; omega) (by have := hx.envs; omega)
          replace C := Lib.hid C
          repeat' ((fail_if_success at_builtin); (first | go_skip | go_guarded | go_step))
          refine C.out.mono ?_
          clear C
          rintro e w6 ⟨B1, d1, B2, d2, rfl, hs1, hs2, hb6⟩
          dsimp only
          have hrd := sec_rd (hs1.imp (fun b h => beh_lo hR5 h.1 h.2)) (hs2.imp (fun b h => beh_lo hR5 h.1 h.2))
          have CI := insR_any l l.length d i B x B1 d1 B2 d2 wo1 w5 w6 hR5 hb6 hrd rfl hi (by omega)
          replace CI := Lib.hid CI
          have hbo := hz
          replace hbo := Lib.hid hbo
          clear hR5 hs1 hs2 hrd hz
          repeat' ((fail_if_success at_builtin); (first | go_skip | go_guarded | go_step))
          refine CI.out.mono ?_
          clear CI
          rintro e w7 ⟨B7, d7, rfl, hs7, hb7⟩
          dsimp only
          have hbf := hbo.out.trans (hb7.mono hbo.out.size)
          repeat' ((fail_if_success at_builtin); (first | go_skip | go_guarded | go_step))
          go_ret2
          exact ret_ok hE.out hL.out hs7 hbf
        · have hi2 : posI (aftN x.nm) l = -1 := by unfold posI; rw [if_neg hq]
          rw [hi2]
          clear hi2
          have hqe : posA (aftN x.nm) l = l.length := by omega
          replace hL := hL.out
          rw [hqe] at hL
          replace hL := Lib.hid hL
          clear hq hqe hple
          have hi : l.length ≤ l.length := Nat.le_refl _
          have C := copied_any x A1 c1 A2 c2 w5 (h1.map (fun _ hp => hbw5.cell hp) (fun b hb => Nat.lt_of_lt_of_le hb hbw5.size)) (h2.map (fun _ hp => hbw5.cell hp) (fun b hb => Nat.lt_of_lt_of_le hb hbw5.size)) (by have := hx.refs; omega) (by have := hx.envs; omega)
          replace C := Lib.hid C
          repeat' ((fail_if_success at_builtin); (first | go_skip | go_guarded | go_step))
          refine C.out.mono ?_
          clear C
          rintro e w6 ⟨B1, d1, B2, d2, rfl, hs1, hs2, hb6⟩
          dsimp only
          have hrd := sec_rd (hs1.imp (fun b h => beh_lo hR5 h.1 h.2)) (hs2.imp (fun b h => beh_lo hR5 h.1 h.2))
          have CI := insR_any l l.length d l.length B x B1 d1 B2 d2 wo1 w5 w6 hR5 hb6 hrd rfl hi (by omega)
          replace CI := Lib.hid CI
          have hbo := hz
          replace hbo := Lib.hid hbo
          clear hR5 hs1 hs2 hrd hz
          repeat' ((fail_if_success at_builtin); (first | go_skip | go_guarded | go_step))
          refine CI.out.mono ?_
          clear CI
          rintro e w7 ⟨B7, d7, rfl, hs7, hb7⟩
          dsimp only
          have hbf := hbo.out.trans (hb7.mono hbo.out.size)
          repeat' ((fail_if_success at_builtin); (first | go_skip | go_guarded | go_step))
          go_ret2
          exact ret_ok hE.out hL.out hs7 hbf
  · have hE := putE_bad (l := l) (x := x) hv0
    have hv0' : (v == 0) = false := by simpa using hv0
    replace hE := Lib.hid hE
    replace hs2 := Lib.hid hs2
    repeat' ((fail_if_success at_builtin); (first | go_skip | go_guarded | go_step))
    go_ret2
    exact ret_err hE.out hv0 hs2.out hbw
end Go.Proofs.YtgloblokkejgmaaDoor
