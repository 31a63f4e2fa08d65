/- The law about two approvals in either order. -/
import Derived.Test.YtionchkblgpklaaDoorGtL
import Derived.Test.YtionchkblgpklaaDoorGtP
namespace Go.Proofs.YtionchkblgpklaaDoor
open Go.RowKit
theorem appG_same (g : Gt) (x : ByteArray) (now : Int) : (appG g x now).s = g.s ∧ (appG g x now).opened = g.opened ∧ (appG g x now).yes.length ≤ g.yes.length + 1 := by
  unfold appG
  split
  · exact ⟨rfl, rfl, by omega⟩
  · exact ⟨rfl, rfl, by dsimp only; rw [putL_len]; omega⟩
theorem appG_each {g : Gt} {x : ByteArray} {now : Int} {n : Nat} (h : ∀ s ∈ g.yes, s.size ≤ n) (hx : x.size ≤ n) : ∀ s ∈ (appG g x now).yes, s.size ≤ n := by
  unfold appG
  split
  · exact h
  · intro s hs
    rcases putL_mem.1 hs with rfl | hs
    · exact hx
    · exact h s hs
set_option maxRecDepth 100000 in
set_option maxHeartbeats 4000000 in
theorem turns_law (g : Gt) (A : Option Addr) (c : Nat) (A' : Option Addr) (c' : Nat) (x y : ByteArray) (now : Int) (w : World) (hs : Seq w w.heap.size 1 A g.s.who.length (cellsS g.s.who)) (hs' : Seq w w.heap.size 1 A' g.yes.length (cellsS g.yes)) (hl : g.s.who.length ≤ 9223372036854775807) (hm : ∀ s ∈ g.s.who, s.size ≤ 9223372036854775807) (hl' : g.yes.length ≤ 9223372036854775807) (hm' : ∀ s ∈ g.yes, s.size ≤ 9223372036854775807) (h1 : I64 g.opened) (h2 : I64 g.s.exp) : Calls Tryd.prog 7 #[.agg (garr g A c A' c'), .agg #[.string x, .string y], .int .i64 now] w fun e w' => e = .returned (.bool true) ∧ Below w.heap.size w w' := by
  have hb1 := ((Below.refl w.heap.size w).alloc (Nat.le_refl _) (.cells (garr g A c A' c') 28)).alloc (by simp) (.cells #[.string x, .string y] 50)
  have hz : ((w.alloc (.cells (garr g A c A' c') 28)).alloc (.cells #[.string x, .string y] 50)).heap.size = w.heap.size + 1 + 1 := by simp
  have d0 : (((w.alloc (.cells (garr g A c A' c') 28)).alloc (.cells #[.string x, .string y] 50))).cell? ⟨w.heap.size, 0, none⟩ = some (.int .i64 g.s.app) := by simp [go_sem]
  have d1 : (((w.alloc (.cells (garr g A c A' c') 28)).alloc (.cells #[.string x, .string y] 50))).cell? ⟨w.heap.size, 1, none⟩ = some (.slice A g.s.who.length c) := by simp [go_sem]
  have d2 : (((w.alloc (.cells (garr g A c A' c') 28)).alloc (.cells #[.string x, .string y] 50))).cell? ⟨w.heap.size, 2, none⟩ = some (.int .i64 g.s.exp) := by simp [go_sem]
  have d3 : (((w.alloc (.cells (garr g A c A' c') 28)).alloc (.cells #[.string x, .string y] 50))).cell? ⟨w.heap.size, 3, none⟩ = some (.int .i64 g.opened) := by simp [go_sem]
  have d4 : (((w.alloc (.cells (garr g A c A' c') 28)).alloc (.cells #[.string x, .string y] 50))).cell? ⟨w.heap.size, 4, none⟩ = some (.slice A' g.yes.length c') := by simp [go_sem]
  have d5 : (((w.alloc (.cells (garr g A c A' c') 28)).alloc (.cells #[.string x, .string y] 50))).cell? ⟨w.heap.size, 5, none⟩ = some (.int .i64 g.state) := by simp [go_sem]
  have dF : ∀ j, (((w.alloc (.cells (garr g A c A' c') 28)).alloc (.cells #[.string x, .string y] 50))).frozen? ⟨w.heap.size, j, none⟩ = false := fun j => by simp [go_sem]
  have y0 : (((w.alloc (.cells (garr g A c A' c') 28)).alloc (.cells #[.string x, .string y] 50))).cell? ⟨w.heap.size + 1, 0, none⟩ = some (.string x) := by simp [go_sem]
  have y1 : (((w.alloc (.cells (garr g A c A' c') 28)).alloc (.cells #[.string x, .string y] 50))).cell? ⟨w.heap.size + 1, 1, none⟩ = some (.string y) := by simp [go_sem]
  have yF : ∀ j, (((w.alloc (.cells (garr g A c A' c') 28)).alloc (.cells #[.string x, .string y] 50))).frozen? ⟨w.heap.size + 1, j, none⟩ = false := fun j => by simp [go_sem]
  go_enter Tryd.func7, Tryd.ntmps7
  repeat' ((fail_if_success at_builtin); (first | go_skip | go_guarded | go_step))
  generalize ((w.alloc (.cells (garr g A c A' c') 28)).alloc (.cells #[.string x, .string y] 50)) = w1 at *
  have hs1 := (hs.below hb1).more hb1.size
  have hs1' := (hs'.below hb1).more hb1.size
  refine (small_any g A c A' c' w1 hs1 hs1' hl hm hl' hm').mono ?_
  rintro e w2 ⟨rfl, hb2⟩
  dsimp only
  replace d0 := (hb2.cell (p := ⟨w.heap.size, 0, none⟩) (by dsimp only; omega)).trans d0
  replace d1 := (hb2.cell (p := ⟨w.heap.size, 1, none⟩) (by dsimp only; omega)).trans d1
  replace d2 := (hb2.cell (p := ⟨w.heap.size, 2, none⟩) (by dsimp only; omega)).trans d2
  replace d3 := (hb2.cell (p := ⟨w.heap.size, 3, none⟩) (by dsimp only; omega)).trans d3
  replace d4 := (hb2.cell (p := ⟨w.heap.size, 4, none⟩) (by dsimp only; omega)).trans d4
  replace d5 := (hb2.cell (p := ⟨w.heap.size, 5, none⟩) (by dsimp only; omega)).trans d5
  replace dF := frz_below hb2 (by omega) dF
  replace y0 := (hb2.cell (p := ⟨w.heap.size + 1, 0, none⟩) (by dsimp only; omega)).trans y0
  replace y1 := (hb2.cell (p := ⟨w.heap.size + 1, 1, none⟩) (by dsimp only; omega)).trans y1
  replace yF := frz_below hb2 (by omega) yF
  have hbw_w2 := hb1.trans (hb2.mono hb1.size)
  have hz2 := hb2.size
  have hr2 := (hs1.below hb2).more hb2.size
  have hr2' := (hs1'.below hb2).more hb2.size
  clear hb2 hs1 hs1'
  cases hf : (fewL g.s.who && fewL g.yes) with
  | false =>
    repeat' ((fail_if_success at_builtin); (first | go_skip | go_guarded | go_step))
    refine (lives_any _).mono ?_
    rintro e wl ⟨rfl, hbl⟩
    dsimp only
    repeat' ((fail_if_success at_builtin); (first | go_skip | go_guarded | go_step))
    go_ret
    exact ⟨rfl, hbw_w2.trans (hbl.mono hbw_w2.size)⟩
  | true =>
    obtain ⟨f1, f2⟩ := Bool.and_eq_true_iff.1 hf
    obtain ⟨n1, n2⟩ := fewL_out f1
    obtain ⟨n3, n4⟩ := fewL_out f2
    clear hf f1 f2
    by_cases hx : 200 < x.size
    · have hx2 : (200 : Int) < (x.size : Int) := by omega
      clear hx
      repeat' ((fail_if_success at_builtin); (first | go_skip | go_guarded | go_step))
      refine (lives_any _).mono ?_
      rintro e wl ⟨rfl, hbl⟩
      dsimp only
      repeat' ((fail_if_success at_builtin); (first | go_skip | go_guarded | go_step))
      go_ret
      exact ⟨rfl, hbw_w2.trans (hbl.mono hbw_w2.size)⟩
    · have hx2 : ¬ (200 : Int) < (x.size : Int) := by omega
      have hx3 : decide ((200 : Int) < (x.size : Int)) = false := decide_eq_false hx2
      by_cases hy : 200 < y.size
      · have hy2 : (200 : Int) < (y.size : Int) := by omega
        clear hy
        repeat' ((fail_if_success at_builtin); (first | go_skip | go_guarded | go_step))
        refine (lives_any _).mono ?_
        rintro e wl ⟨rfl, hbl⟩
        dsimp only
        repeat' ((fail_if_success at_builtin); (first | go_skip | go_guarded | go_step))
        go_ret
        exact ⟨rfl, hbw_w2.trans (hbl.mono hbw_w2.size)⟩
      · have hy2 : ¬ (200 : Int) < (y.size : Int) := by omega
        have hy3 : decide ((200 : Int) < (y.size : Int)) = false := decide_eq_false hy2
        have CA := refAsc_any g.yes A' c' w2 hr2' (by omega) (fun s hs => by have := n4 s hs; omega)
        replace CA := Lib.hid CA
        repeat' ((fail_if_success at_builtin); (first | go_skip | go_guarded | go_step))
        refine CA.out.mono ?_
        rintro e w3 ⟨rfl, hb3⟩
        dsimp only
        replace d0 := (hb3.cell (p := ⟨w.heap.size, 0, none⟩) (by dsimp only; omega)).trans d0
        replace d1 := (hb3.cell (p := ⟨w.heap.size, 1, none⟩) (by dsimp only; omega)).trans d1
        replace d2 := (hb3.cell (p := ⟨w.heap.size, 2, none⟩) (by dsimp only; omega)).trans d2
        replace d3 := (hb3.cell (p := ⟨w.heap.size, 3, none⟩) (by dsimp only; omega)).trans d3
        replace d4 := (hb3.cell (p := ⟨w.heap.size, 4, none⟩) (by dsimp only; omega)).trans d4
        replace d5 := (hb3.cell (p := ⟨w.heap.size, 5, none⟩) (by dsimp only; omega)).trans d5
        replace dF := frz_below hb3 (by omega) dF
        replace y0 := (hb3.cell (p := ⟨w.heap.size + 1, 0, none⟩) (by dsimp only; omega)).trans y0
        replace y1 := (hb3.cell (p := ⟨w.heap.size + 1, 1, none⟩) (by dsimp only; omega)).trans y1
        replace yF := frz_below hb3 (by omega) yF
        have hbw_w3 := hbw_w2.trans (hb3.mono hbw_w2.size)
        have hz3 := hb3.size
        replace hr2 := (hr2.below hb3).more hb3.size
        replace hr2' := (hr2'.below hb3).more hb3.size
        clear hb3 CA
        cases ha : ascL g.yes with
        | false =>
          repeat' ((fail_if_success at_builtin); (first | go_skip | go_guarded | go_step))
          refine (lives_any _).mono ?_
          rintro e wl ⟨rfl, hbl⟩
          dsimp only
          repeat' ((fail_if_success at_builtin); (first | go_skip | go_guarded | go_step))
          go_ret
          exact ⟨rfl, hbw_w3.trans (hbl.mono hbw_w3.size)⟩
        | true =>
          clear ha
          by_cases hap : g.s.app < (g.yes.length : Int) + 2
          · repeat' ((fail_if_success at_builtin); (first | go_skip | go_guarded | go_step))
            refine (lives_any _).mono ?_
            rintro e wl ⟨rfl, hbl⟩
            dsimp only
            repeat' ((fail_if_success at_builtin); (first | go_skip | go_guarded | go_step))
            go_ret
            exact ⟨rfl, hbw_w3.trans (hbl.mono hbw_w3.size)⟩
          · have hap2 : (g.yes.length : Int) + 2 ≤ g.s.app := by omega
            have sm1 := appG_same g x now
            have sm2 := appG_same g y now
            have sm3 := appG_same (appG g x now) y now
            have sm4 := appG_same (appG g y now) x now
            have ez : ∀ s ∈ g.yes, s.size ≤ 1000 := fun s hs => by have := n4 s hs; omega
            have ea := appG_each (now := now) ez (show x.size ≤ 1000 by omega)
            have eb := appG_each (now := now) ez (show y.size ≤ 1000 by omega)
            have hcom := fun h0 h1 h2 => app_comm (g := g) (x := x) (y := y) (now := now) hap2 h0 h1 h2
            have C1 := fun w' (hr : Seq w' w'.heap.size 1 A g.s.who.length (cellsS g.s.who)) (hr' : Seq w' w'.heap.size 1 A' g.yes.length (cellsS g.yes)) => approveF_any g A c A' c' x now w' hr hr' (by omega) (by omega) ez (fun _ => by omega) h1 h2
            have C3 := fun w' (hr : Seq w' w'.heap.size 1 A g.s.who.length (cellsS g.s.who)) (hr' : Seq w' w'.heap.size 1 A' g.yes.length (cellsS g.yes)) => approveF_any g A c A' c' y now w' hr hr' (by omega) (by omega) ez (fun _ => by omega) h1 h2
            have C2 := fun A2 c2 A2' c2' w' (hr : Seq w' w'.heap.size 1 A2 (appG g x now).s.who.length (cellsS (appG g x now).s.who)) (hr' : Seq w' w'.heap.size 1 A2' (appG g x now).yes.length (cellsS (appG g x now).yes)) => approveF_any (appG g x now) A2 c2 A2' c2' y now w' hr hr' (by rw [sm1.1]; omega) (by omega) ea (fun _ => by omega) (by rw [sm1.2.1]; exact h1) (by rw [sm1.1]; exact h2)
            have C4 := fun A2 c2 A2' c2' w' (hr : Seq w' w'.heap.size 1 A2 (appG g y now).s.who.length (cellsS (appG g y now).s.who)) (hr' : Seq w' w'.heap.size 1 A2' (appG g y now).yes.length (cellsS (appG g y now).yes)) => approveF_any (appG g y now) A2 c2 A2' c2' x now w' hr hr' (by rw [sm2.1]; omega) (by omega) eb (fun _ => by omega) (by rw [sm2.2.1]; exact h1) (by rw [sm2.1]; exact h2)
            have l1 : (appG (appG g x now) y now).s.who.length ≤ 100000 := by rw [sm3.1, sm1.1]; omega
            have l2 : (appG (appG g x now) y now).yes.length ≤ 100000 := by omega
            generalize appG (appG g x now) y now = a2 at *
            generalize appG (appG g y now) x now = b2 at *
            generalize appE (appG g x now) y now = f1 at *
            generalize appE (appG g y now) x now = f2 at *
            generalize appG g x now = a1 at *
            generalize appG g y now = b1 at *
            generalize appE g x now = e1 at *
            generalize appE g y now = e2 at *
            clear sm1 sm2 sm3 sm4 ez ea eb n2 n4
            replace C1 := Lib.hid C1
            replace C2 := Lib.hid C2
            replace C3 := Lib.hid C3
            replace C4 := Lib.hid C4
            replace l1 := Lib.hid l1
            replace l2 := Lib.hid l2
            replace hcom := Lib.hid hcom
            repeat' ((fail_if_success at_builtin); (first | go_skip | go_guarded | go_step))
            clear hr2 hr2'
            have C := C1.out w3 ((hs.below hbw_w3).more hbw_w3.size) ((hs'.below hbw_w3).more hbw_w3.size)
            replace C := Lib.hid C
            refine C.out.mono ?_
            rintro e w4x ⟨A3, c3, B3, k3, rfl, hb, hq3, hp3⟩
            dsimp only
            replace d0 := (hb.cell (p := ⟨w.heap.size, 0, none⟩) (by dsimp only; omega)).trans d0
            replace d1 := (hb.cell (p := ⟨w.heap.size, 1, none⟩) (by dsimp only; omega)).trans d1
            replace d2 := (hb.cell (p := ⟨w.heap.size, 2, none⟩) (by dsimp only; omega)).trans d2
            replace d3 := (hb.cell (p := ⟨w.heap.size, 3, none⟩) (by dsimp only; omega)).trans d3
            replace d4 := (hb.cell (p := ⟨w.heap.size, 4, none⟩) (by dsimp only; omega)).trans d4
            replace d5 := (hb.cell (p := ⟨w.heap.size, 5, none⟩) (by dsimp only; omega)).trans d5
            replace dF := frz_below hb (by omega) dF
            replace y0 := (hb.cell (p := ⟨w.heap.size + 1, 0, none⟩) (by dsimp only; omega)).trans y0
            replace y1 := (hb.cell (p := ⟨w.heap.size + 1, 1, none⟩) (by dsimp only; omega)).trans y1
            replace yF := frz_below hb (by omega) yF
            have hbw_w4x := hbw_w3.trans (hb.mono hbw_w3.size)
            have hz_w4x := hb.size
            clear hb C
            have ya0 : ∀ ob, (w4x.alloc ob).cell? ⟨w.heap.size + 1, 0, none⟩ = some (.string x) := fun ob => (((Below.refl w4x.heap.size w4x).alloc (Nat.le_refl _) ob).cell (p := ⟨w.heap.size + 1, 0, none⟩) (by dsimp only; omega)).trans y0
            have ya1 : ∀ ob, (w4x.alloc ob).cell? ⟨w.heap.size + 1, 1, none⟩ = some (.string y) := fun ob => (((Below.refl w4x.heap.size w4x).alloc (Nat.le_refl _) ob).cell (p := ⟨w.heap.size + 1, 1, none⟩) (by dsimp only; omega)).trans y1
            repeat' ((fail_if_success at_builtin); (first | go_skip | go_guarded | go_step))
            clear ya0 ya1
            have hal := (Below.refl w4x.heap.size w4x).alloc (Nat.le_refl _) (.cells #[.int .i64 (a1).s.app, .slice A3 (a1).s.who.length c3, .int .i64 (a1).s.exp, .int .i64 (a1).opened, .slice B3 (a1).yes.length k3, .int .i64 (a1).state] 28)
            replace d0 := (hal.cell (p := ⟨w.heap.size, 0, none⟩) (by dsimp only; omega)).trans d0
            replace d1 := (hal.cell (p := ⟨w.heap.size, 1, none⟩) (by dsimp only; omega)).trans d1
            replace d2 := (hal.cell (p := ⟨w.heap.size, 2, none⟩) (by dsimp only; omega)).trans d2
            replace d3 := (hal.cell (p := ⟨w.heap.size, 3, none⟩) (by dsimp only; omega)).trans d3
            replace d4 := (hal.cell (p := ⟨w.heap.size, 4, none⟩) (by dsimp only; omega)).trans d4
            replace d5 := (hal.cell (p := ⟨w.heap.size, 5, none⟩) (by dsimp only; omega)).trans d5
            replace dF := frz_below hal (by omega) dF
            replace y0 := (hal.cell (p := ⟨w.heap.size + 1, 0, none⟩) (by dsimp only; omega)).trans y0
            replace y1 := (hal.cell (p := ⟨w.heap.size + 1, 1, none⟩) (by dsimp only; omega)).trans y1
            replace yF := frz_below hal (by omega) yF
            have p0 : (w4x.alloc (.cells #[.int .i64 (a1).s.app, .slice A3 (a1).s.who.length c3, .int .i64 (a1).s.exp, .int .i64 (a1).opened, .slice B3 (a1).yes.length k3, .int .i64 (a1).state] 28)).cell? ⟨w4x.heap.size, 0, none⟩ = some (.int .i64 (a1).s.app) := by simp [go_sem]
            have p1 : (w4x.alloc (.cells #[.int .i64 (a1).s.app, .slice A3 (a1).s.who.length c3, .int .i64 (a1).s.exp, .int .i64 (a1).opened, .slice B3 (a1).yes.length k3, .int .i64 (a1).state] 28)).cell? ⟨w4x.heap.size, 1, none⟩ = some (.slice A3 (a1).s.who.length c3) := by simp [go_sem]
            have p2 : (w4x.alloc (.cells #[.int .i64 (a1).s.app, .slice A3 (a1).s.who.length c3, .int .i64 (a1).s.exp, .int .i64 (a1).opened, .slice B3 (a1).yes.length k3, .int .i64 (a1).state] 28)).cell? ⟨w4x.heap.size, 2, none⟩ = some (.int .i64 (a1).s.exp) := by simp [go_sem]
            have p3 : (w4x.alloc (.cells #[.int .i64 (a1).s.app, .slice A3 (a1).s.who.length c3, .int .i64 (a1).s.exp, .int .i64 (a1).opened, .slice B3 (a1).yes.length k3, .int .i64 (a1).state] 28)).cell? ⟨w4x.heap.size, 3, none⟩ = some (.int .i64 (a1).opened) := by simp [go_sem]
            have p4 : (w4x.alloc (.cells #[.int .i64 (a1).s.app, .slice A3 (a1).s.who.length c3, .int .i64 (a1).s.exp, .int .i64 (a1).opened, .slice B3 (a1).yes.length k3, .int .i64 (a1).state] 28)).cell? ⟨w4x.heap.size, 4, none⟩ = some (.slice B3 (a1).yes.length k3) := by simp [go_sem]
            have p5 : (w4x.alloc (.cells #[.int .i64 (a1).s.app, .slice A3 (a1).s.who.length c3, .int .i64 (a1).s.exp, .int .i64 (a1).opened, .slice B3 (a1).yes.length k3, .int .i64 (a1).state] 28)).cell? ⟨w4x.heap.size, 5, none⟩ = some (.int .i64 (a1).state) := by simp [go_sem]
            have pF : ∀ j, (w4x.alloc (.cells #[.int .i64 (a1).s.app, .slice A3 (a1).s.who.length c3, .int .i64 (a1).s.exp, .int .i64 (a1).opened, .slice B3 (a1).yes.length k3, .int .i64 (a1).state] 28)).frozen? ⟨w4x.heap.size, j, none⟩ = false := fun j => by simp [go_sem]
            have hz_w4 : (w4x.alloc (.cells #[.int .i64 (a1).s.app, .slice A3 (a1).s.who.length c3, .int .i64 (a1).s.exp, .int .i64 (a1).opened, .slice B3 (a1).yes.length k3, .int .i64 (a1).state] 28)).heap.size = w4x.heap.size + 1 := by simp
            have hbw_w4 := hbw_w4x.trans (hal.mono hbw_w4x.size)
            replace hq3 := SeqP.belowS hq3 hal (fun b hb => by have := hb.2; omega)
            replace hp3 := SeqP.belowS hp3 hal (fun b hb => by have := hb.2; omega)
            generalize w4x.alloc (.cells #[.int .i64 (a1).s.app, .slice A3 (a1).s.who.length c3, .int .i64 (a1).s.exp, .int .i64 (a1).opened, .slice B3 (a1).yes.length k3, .int .i64 (a1).state] 28) = w4 at *
            clear hal
            have C := C2.out A3 c3 B3 k3 w4 (SeqP.imp hq3 (fun b hb => by have := hb.2; omega)) (SeqP.imp hp3 (fun b hb => by have := hb.2; omega))
            replace C := Lib.hid C
            refine C.out.mono ?_
            rintro e w5x ⟨A4, c4, B4, k4, rfl, hb, hq4, hp4⟩
            dsimp only
            replace d0 := (hb.cell (p := ⟨w.heap.size, 0, none⟩) (by dsimp only; omega)).trans d0
            replace d1 := (hb.cell (p := ⟨w.heap.size, 1, none⟩) (by dsimp only; omega)).trans d1
            replace d2 := (hb.cell (p := ⟨w.heap.size, 2, none⟩) (by dsimp only; omega)).trans d2
            replace d3 := (hb.cell (p := ⟨w.heap.size, 3, none⟩) (by dsimp only; omega)).trans d3
            replace d4 := (hb.cell (p := ⟨w.heap.size, 4, none⟩) (by dsimp only; omega)).trans d4
            replace d5 := (hb.cell (p := ⟨w.heap.size, 5, none⟩) (by dsimp only; omega)).trans d5
            replace dF := frz_below hb (by omega) dF
            replace y0 := (hb.cell (p := ⟨w.heap.size + 1, 0, none⟩) (by dsimp only; omega)).trans y0
            replace y1 := (hb.cell (p := ⟨w.heap.size + 1, 1, none⟩) (by dsimp only; omega)).trans y1
            replace yF := frz_below hb (by omega) yF
            replace p0 := (hb.cell (p := ⟨w4x.heap.size, 0, none⟩) (by dsimp only; omega)).trans p0
            replace p1 := (hb.cell (p := ⟨w4x.heap.size, 1, none⟩) (by dsimp only; omega)).trans p1
            replace p2 := (hb.cell (p := ⟨w4x.heap.size, 2, none⟩) (by dsimp only; omega)).trans p2
            replace p3 := (hb.cell (p := ⟨w4x.heap.size, 3, none⟩) (by dsimp only; omega)).trans p3
            replace p4 := (hb.cell (p := ⟨w4x.heap.size, 4, none⟩) (by dsimp only; omega)).trans p4
            replace p5 := (hb.cell (p := ⟨w4x.heap.size, 5, none⟩) (by dsimp only; omega)).trans p5
            replace pF := frz_below hb (by omega) pF
            have hbw_w5x := hbw_w4.trans (hb.mono hbw_w4.size)
            have hz_w5x := hb.size
            replace hq3 := SeqP.belowS hq3 hb (fun b hb => by have := hb.2; omega)
            replace hp3 := SeqP.belowS hp3 hb (fun b hb => by have := hb.2; omega)
            clear hb C
            repeat' ((fail_if_success at_builtin); (first | go_skip | go_guarded | go_step))
            clear hq3 hp3
            generalize hw_w5 : ((((((w5x.setCell ⟨w4x.heap.size, 0, none⟩ (.int .i64 (a2).s.app)).setCell ⟨w4x.heap.size, 1, none⟩ (.slice A4 (a2).s.who.length c4)).setCell ⟨w4x.heap.size, 2, none⟩ (.int .i64 (a2).s.exp)).setCell ⟨w4x.heap.size, 3, none⟩ (.int .i64 (a2).opened)).setCell ⟨w4x.heap.size, 4, none⟩ (.slice B4 (a2).yes.length k4)).setCell ⟨w4x.heap.size, 5, none⟩ (.int .i64 (a2).state)) = w5 at *
            obtain ⟨⟨np0, np1, np2, np3, np4, np5⟩, far_w5, frz_w5, hsz_w5, bel_w5, own_w5⟩ := six_ok (.int .i64 (a2).s.app) (.slice A4 (a2).s.who.length c4) (.int .i64 (a2).s.exp) (.int .i64 (a2).opened) (.slice B4 (a2).yes.length k4) (.int .i64 (a2).state) p0 p1 p2 p3 p4 p5 w5 hw_w5
            clear p0 p1 p2 p3 p4 p5 hw_w5
            have p0 := np0
            have p1 := np1
            have p2 := np2
            have p3 := np3
            have p4 := np4
            have p5 := np5
            clear np0 np1 np2 np3 np4 np5
            replace d0 := (far_w5 ⟨w.heap.size, 0, none⟩ (by dsimp only; omega)).trans d0
            replace d1 := (far_w5 ⟨w.heap.size, 1, none⟩ (by dsimp only; omega)).trans d1
            replace d2 := (far_w5 ⟨w.heap.size, 2, none⟩ (by dsimp only; omega)).trans d2
            replace d3 := (far_w5 ⟨w.heap.size, 3, none⟩ (by dsimp only; omega)).trans d3
            replace d4 := (far_w5 ⟨w.heap.size, 4, none⟩ (by dsimp only; omega)).trans d4
            replace d5 := (far_w5 ⟨w.heap.size, 5, none⟩ (by dsimp only; omega)).trans d5
            replace dF := fun j => (frz_w5 ⟨w.heap.size, j, none⟩).trans (dF j)
            replace y0 := (far_w5 ⟨w.heap.size + 1, 0, none⟩ (by dsimp only; omega)).trans y0
            replace y1 := (far_w5 ⟨w.heap.size + 1, 1, none⟩ (by dsimp only; omega)).trans y1
            replace yF := fun j => (frz_w5 ⟨w.heap.size + 1, j, none⟩).trans (yF j)
            replace pF := fun j => (frz_w5 ⟨w4x.heap.size, j, none⟩).trans (pF j)
            have hbw_w5 := bel_w5 _ _ (by omega) hbw_w5x
            have hz_w5 := hsz_w5
            replace hq4 := SeqP.map hq4 (fun p hp => far_w5 p (by have := hp.1; have := hp.2; omega)) fun _ h => h
            replace hp4 := SeqP.map hp4 (fun p hp => far_w5 p (by have := hp.1; have := hp.2; omega)) fun _ h => h
            clear far_w5 frz_w5 hsz_w5 bel_w5 own_w5
            have C := C3.out w5 ((hs.below hbw_w5).more hbw_w5.size) ((hs'.below hbw_w5).more hbw_w5.size)
            replace C := Lib.hid C
            refine C.out.mono ?_
            rintro e w6x ⟨A5, c5, B5, k5, rfl, hb, hq5, hp5⟩
            dsimp only
            replace d0 := (hb.cell (p := ⟨w.heap.size, 0, none⟩) (by dsimp only; omega)).trans d0
            replace d1 := (hb.cell (p := ⟨w.heap.size, 1, none⟩) (by dsimp only; omega)).trans d1
            replace d2 := (hb.cell (p := ⟨w.heap.size, 2, none⟩) (by dsimp only; omega)).trans d2
            replace d3 := (hb.cell (p := ⟨w.heap.size, 3, none⟩) (by dsimp only; omega)).trans d3
            replace d4 := (hb.cell (p := ⟨w.heap.size, 4, none⟩) (by dsimp only; omega)).trans d4
            replace d5 := (hb.cell (p := ⟨w.heap.size, 5, none⟩) (by dsimp only; omega)).trans d5
            replace dF := frz_below hb (by omega) dF
            replace y0 := (hb.cell (p := ⟨w.heap.size + 1, 0, none⟩) (by dsimp only; omega)).trans y0
            replace y1 := (hb.cell (p := ⟨w.heap.size + 1, 1, none⟩) (by dsimp only; omega)).trans y1
            replace yF := frz_below hb (by omega) yF
            replace p0 := (hb.cell (p := ⟨w4x.heap.size, 0, none⟩) (by dsimp only; omega)).trans p0
            replace p1 := (hb.cell (p := ⟨w4x.heap.size, 1, none⟩) (by dsimp only; omega)).trans p1
            replace p2 := (hb.cell (p := ⟨w4x.heap.size, 2, none⟩) (by dsimp only; omega)).trans p2
            replace p3 := (hb.cell (p := ⟨w4x.heap.size, 3, none⟩) (by dsimp only; omega)).trans p3
            replace p4 := (hb.cell (p := ⟨w4x.heap.size, 4, none⟩) (by dsimp only; omega)).trans p4
            replace p5 := (hb.cell (p := ⟨w4x.heap.size, 5, none⟩) (by dsimp only; omega)).trans p5
            replace pF := frz_below hb (by omega) pF
            have hbw_w6x := hbw_w5.trans (hb.mono hbw_w5.size)
            have hz_w6x := hb.size
            replace hq4 := SeqP.belowS hq4 hb (fun b hb => by have := hb.2; omega)
            replace hp4 := SeqP.belowS hp4 hb (fun b hb => by have := hb.2; omega)
            clear hb C
            have ya0 : ∀ ob, (w6x.alloc ob).cell? ⟨w.heap.size + 1, 0, none⟩ = some (.string x) := fun ob => (((Below.refl w6x.heap.size w6x).alloc (Nat.le_refl _) ob).cell (p := ⟨w.heap.size + 1, 0, none⟩) (by dsimp only; omega)).trans y0
            have ya1 : ∀ ob, (w6x.alloc ob).cell? ⟨w.heap.size + 1, 1, none⟩ = some (.string y) := fun ob => (((Below.refl w6x.heap.size w6x).alloc (Nat.le_refl _) ob).cell (p := ⟨w.heap.size + 1, 1, none⟩) (by dsimp only; omega)).trans y1
            repeat' ((fail_if_success at_builtin); (first | go_skip | go_guarded | go_step))
            clear ya0 ya1
            have hal := (Below.refl w6x.heap.size w6x).alloc (Nat.le_refl _) (.cells #[.int .i64 (b1).s.app, .slice A5 (b1).s.who.length c5, .int .i64 (b1).s.exp, .int .i64 (b1).opened, .slice B5 (b1).yes.length k5, .int .i64 (b1).state] 28)
            replace d0 := (hal.cell (p := ⟨w.heap.size, 0, none⟩) (by dsimp only; omega)).trans d0
            replace d1 := (hal.cell (p := ⟨w.heap.size, 1, none⟩) (by dsimp only; omega)).trans d1
            replace d2 := (hal.cell (p := ⟨w.heap.size, 2, none⟩) (by dsimp only; omega)).trans d2
            replace d3 := (hal.cell (p := ⟨w.heap.size, 3, none⟩) (by dsimp only; omega)).trans d3
            replace d4 := (hal.cell (p := ⟨w.heap.size, 4, none⟩) (by dsimp only; omega)).trans d4
            replace d5 := (hal.cell (p := ⟨w.heap.size, 5, none⟩) (by dsimp only; omega)).trans d5
            replace dF := frz_below hal (by omega) dF
            replace y0 := (hal.cell (p := ⟨w.heap.size + 1, 0, none⟩) (by dsimp only; omega)).trans y0
            replace y1 := (hal.cell (p := ⟨w.heap.size + 1, 1, none⟩) (by dsimp only; omega)).trans y1
            replace yF := frz_below hal (by omega) yF
            replace p0 := (hal.cell (p := ⟨w4x.heap.size, 0, none⟩) (by dsimp only; omega)).trans p0
            replace p1 := (hal.cell (p := ⟨w4x.heap.size, 1, none⟩) (by dsimp only; omega)).trans p1
            replace p2 := (hal.cell (p := ⟨w4x.heap.size, 2, none⟩) (by dsimp only; omega)).trans p2
            replace p3 := (hal.cell (p := ⟨w4x.heap.size, 3, none⟩) (by dsimp only; omega)).trans p3
            replace p4 := (hal.cell (p := ⟨w4x.heap.size, 4, none⟩) (by dsimp only; omega)).trans p4
            replace p5 := (hal.cell (p := ⟨w4x.heap.size, 5, none⟩) (by dsimp only; omega)).trans p5
            replace pF := frz_below hal (by omega) pF
            have q0 : (w6x.alloc (.cells #[.int .i64 (b1).s.app, .slice A5 (b1).s.who.length c5, .int .i64 (b1).s.exp, .int .i64 (b1).opened, .slice B5 (b1).yes.length k5, .int .i64 (b1).state] 28)).cell? ⟨w6x.heap.size, 0, none⟩ = some (.int .i64 (b1).s.app) := by simp [go_sem]
            have q1 : (w6x.alloc (.cells #[.int .i64 (b1).s.app, .slice A5 (b1).s.who.length c5, .int .i64 (b1).s.exp, .int .i64 (b1).opened, .slice B5 (b1).yes.length k5, .int .i64 (b1).state] 28)).cell? ⟨w6x.heap.size, 1, none⟩ = some (.slice A5 (b1).s.who.length c5) := by simp [go_sem]
            have q2 : (w6x.alloc (.cells #[.int .i64 (b1).s.app, .slice A5 (b1).s.who.length c5, .int .i64 (b1).s.exp, .int .i64 (b1).opened, .slice B5 (b1).yes.length k5, .int .i64 (b1).state] 28)).cell? ⟨w6x.heap.size, 2, none⟩ = some (.int .i64 (b1).s.exp) := by simp [go_sem]
            have q3 : (w6x.alloc (.cells #[.int .i64 (b1).s.app, .slice A5 (b1).s.who.length c5, .int .i64 (b1).s.exp, .int .i64 (b1).opened, .slice B5 (b1).yes.length k5, .int .i64 (b1).state] 28)).cell? ⟨w6x.heap.size, 3, none⟩ = some (.int .i64 (b1).opened) := by simp [go_sem]
            have q4 : (w6x.alloc (.cells #[.int .i64 (b1).s.app, .slice A5 (b1).s.who.length c5, .int .i64 (b1).s.exp, .int .i64 (b1).opened, .slice B5 (b1).yes.length k5, .int .i64 (b1).state] 28)).cell? ⟨w6x.heap.size, 4, none⟩ = some (.slice B5 (b1).yes.length k5) := by simp [go_sem]
            have q5 : (w6x.alloc (.cells #[.int .i64 (b1).s.app, .slice A5 (b1).s.who.length c5, .int .i64 (b1).s.exp, .int .i64 (b1).opened, .slice B5 (b1).yes.length k5, .int .i64 (b1).state] 28)).cell? ⟨w6x.heap.size, 5, none⟩ = some (.int .i64 (b1).state) := by simp [go_sem]
            have qF : ∀ j, (w6x.alloc (.cells #[.int .i64 (b1).s.app, .slice A5 (b1).s.who.length c5, .int .i64 (b1).s.exp, .int .i64 (b1).opened, .slice B5 (b1).yes.length k5, .int .i64 (b1).state] 28)).frozen? ⟨w6x.heap.size, j, none⟩ = false := fun j => by simp [go_sem]
            have hz_w6 : (w6x.alloc (.cells #[.int .i64 (b1).s.app, .slice A5 (b1).s.who.length c5, .int .i64 (b1).s.exp, .int .i64 (b1).opened, .slice B5 (b1).yes.length k5, .int .i64 (b1).state] 28)).heap.size = w6x.heap.size + 1 := by simp
            have hbw_w6 := hbw_w6x.trans (hal.mono hbw_w6x.size)
            replace hq4 := SeqP.belowS hq4 hal (fun b hb => by have := hb.2; omega)
            replace hp4 := SeqP.belowS hp4 hal (fun b hb => by have := hb.2; omega)
            replace hq5 := SeqP.belowS hq5 hal (fun b hb => by have := hb.2; omega)
            replace hp5 := SeqP.belowS hp5 hal (fun b hb => by have := hb.2; omega)
            generalize w6x.alloc (.cells #[.int .i64 (b1).s.app, .slice A5 (b1).s.who.length c5, .int .i64 (b1).s.exp, .int .i64 (b1).opened, .slice B5 (b1).yes.length k5, .int .i64 (b1).state] 28) = w6 at *
            clear hal
            have C := C4.out A5 c5 B5 k5 w6 (SeqP.imp hq5 (fun b hb => by have := hb.2; omega)) (SeqP.imp hp5 (fun b hb => by have := hb.2; omega))
            replace C := Lib.hid C
            refine C.out.mono ?_
            rintro e w7x ⟨A6, c6, B6, k6, rfl, hb, hq6, hp6⟩
            dsimp only
            replace d0 := (hb.cell (p := ⟨w.heap.size, 0, none⟩) (by dsimp only; omega)).trans d0
            replace d1 := (hb.cell (p := ⟨w.heap.size, 1, none⟩) (by dsimp only; omega)).trans d1
            replace d2 := (hb.cell (p := ⟨w.heap.size, 2, none⟩) (by dsimp only; omega)).trans d2
            replace d3 := (hb.cell (p := ⟨w.heap.size, 3, none⟩) (by dsimp only; omega)).trans d3
            replace d4 := (hb.cell (p := ⟨w.heap.size, 4, none⟩) (by dsimp only; omega)).trans d4
            replace d5 := (hb.cell (p := ⟨w.heap.size, 5, none⟩) (by dsimp only; omega)).trans d5
            replace dF := frz_below hb (by omega) dF
            replace y0 := (hb.cell (p := ⟨w.heap.size + 1, 0, none⟩) (by dsimp only; omega)).trans y0
            replace y1 := (hb.cell (p := ⟨w.heap.size + 1, 1, none⟩) (by dsimp only; omega)).trans y1
            replace yF := frz_below hb (by omega) yF
            replace p0 := (hb.cell (p := ⟨w4x.heap.size, 0, none⟩) (by dsimp only; omega)).trans p0
            replace p1 := (hb.cell (p := ⟨w4x.heap.size, 1, none⟩) (by dsimp only; omega)).trans p1
            replace p2 := (hb.cell (p := ⟨w4x.heap.size, 2, none⟩) (by dsimp only; omega)).trans p2
            replace p3 := (hb.cell (p := ⟨w4x.heap.size, 3, none⟩) (by dsimp only; omega)).trans p3
            replace p4 := (hb.cell (p := ⟨w4x.heap.size, 4, none⟩) (by dsimp only; omega)).trans p4
            replace p5 := (hb.cell (p := ⟨w4x.heap.size, 5, none⟩) (by dsimp only; omega)).trans p5
            replace pF := frz_below hb (by omega) pF
            replace q0 := (hb.cell (p := ⟨w6x.heap.size, 0, none⟩) (by dsimp only; omega)).trans q0
            replace q1 := (hb.cell (p := ⟨w6x.heap.size, 1, none⟩) (by dsimp only; omega)).trans q1
            replace q2 := (hb.cell (p := ⟨w6x.heap.size, 2, none⟩) (by dsimp only; omega)).trans q2
            replace q3 := (hb.cell (p := ⟨w6x.heap.size, 3, none⟩) (by dsimp only; omega)).trans q3
            replace q4 := (hb.cell (p := ⟨w6x.heap.size, 4, none⟩) (by dsimp only; omega)).trans q4
            replace q5 := (hb.cell (p := ⟨w6x.heap.size, 5, none⟩) (by dsimp only; omega)).trans q5
            replace qF := frz_below hb (by omega) qF
            have hbw_w7x := hbw_w6.trans (hb.mono hbw_w6.size)
            have hz_w7x := hb.size
            replace hq4 := SeqP.belowS hq4 hb (fun b hb => by have := hb.2; omega)
            replace hp4 := SeqP.belowS hp4 hb (fun b hb => by have := hb.2; omega)
            replace hq5 := SeqP.belowS hq5 hb (fun b hb => by have := hb.2; omega)
            replace hp5 := SeqP.belowS hp5 hb (fun b hb => by have := hb.2; omega)
            clear hb C
            clear hq5 hp5 C1 C2 C3 C4 yF y0 y1
            by_cases h_e1 : e1 = 0
            · subst h_e1
              by_cases h_f1 : f1 = 0
              · subst h_f1
                by_cases h_e2 : e2 = 0
                · subst h_e2
                  by_cases h_f2 : f2 = 0
                  · subst h_f2
                    obtain ⟨hab, hst⟩ := hcom.out rfl rfl rfl
                    subst hab
                    replace hst := Lib.hid hst
                    repeat' ((fail_if_success at_builtin); (first | go_skip | go_guarded | go_step))
                    generalize hw_w7 : ((((((w7x.setCell ⟨w6x.heap.size, 0, none⟩ (.int .i64 (a2).s.app)).setCell ⟨w6x.heap.size, 1, none⟩ (.slice A6 (a2).s.who.length c6)).setCell ⟨w6x.heap.size, 2, none⟩ (.int .i64 (a2).s.exp)).setCell ⟨w6x.heap.size, 3, none⟩ (.int .i64 (a2).opened)).setCell ⟨w6x.heap.size, 4, none⟩ (.slice B6 (a2).yes.length k6)).setCell ⟨w6x.heap.size, 5, none⟩ (.int .i64 (a2).state)) = w7 at *
                    obtain ⟨⟨nq0, nq1, nq2, nq3, nq4, nq5⟩, far_w7, frz_w7, hsz_w7, bel_w7, own_w7⟩ := six_ok (.int .i64 (a2).s.app) (.slice A6 (a2).s.who.length c6) (.int .i64 (a2).s.exp) (.int .i64 (a2).opened) (.slice B6 (a2).yes.length k6) (.int .i64 (a2).state) q0 q1 q2 q3 q4 q5 w7 hw_w7
                    clear q0 q1 q2 q3 q4 q5 hw_w7
                    have q0 := nq0
                    have q1 := nq1
                    have q2 := nq2
                    have q3 := nq3
                    have q4 := nq4
                    have q5 := nq5
                    clear nq0 nq1 nq2 nq3 nq4 nq5
                    replace d0 := (far_w7 ⟨w.heap.size, 0, none⟩ (by dsimp only; omega)).trans d0
                    replace d1 := (far_w7 ⟨w.heap.size, 1, none⟩ (by dsimp only; omega)).trans d1
                    replace d2 := (far_w7 ⟨w.heap.size, 2, none⟩ (by dsimp only; omega)).trans d2
                    replace d3 := (far_w7 ⟨w.heap.size, 3, none⟩ (by dsimp only; omega)).trans d3
                    replace d4 := (far_w7 ⟨w.heap.size, 4, none⟩ (by dsimp only; omega)).trans d4
                    replace d5 := (far_w7 ⟨w.heap.size, 5, none⟩ (by dsimp only; omega)).trans d5
                    replace dF := fun j => (frz_w7 ⟨w.heap.size, j, none⟩).trans (dF j)
                    replace p0 := (far_w7 ⟨w4x.heap.size, 0, none⟩ (by dsimp only; omega)).trans p0
                    replace p1 := (far_w7 ⟨w4x.heap.size, 1, none⟩ (by dsimp only; omega)).trans p1
                    replace p2 := (far_w7 ⟨w4x.heap.size, 2, none⟩ (by dsimp only; omega)).trans p2
                    replace p3 := (far_w7 ⟨w4x.heap.size, 3, none⟩ (by dsimp only; omega)).trans p3
                    replace p4 := (far_w7 ⟨w4x.heap.size, 4, none⟩ (by dsimp only; omega)).trans p4
                    replace p5 := (far_w7 ⟨w4x.heap.size, 5, none⟩ (by dsimp only; omega)).trans p5
                    replace pF := fun j => (frz_w7 ⟨w4x.heap.size, j, none⟩).trans (pF j)
                    replace qF := fun j => (frz_w7 ⟨w6x.heap.size, j, none⟩).trans (qF j)
                    have hbw_w7 := bel_w7 _ _ (by omega) hbw_w7x
                    have hz_w7 := hsz_w7
                    replace hq4 := SeqP.map hq4 (fun p hp => far_w7 p (by have := hp.1; have := hp.2; omega)) fun _ h => h
                    replace hp4 := SeqP.map hp4 (fun p hp => far_w7 p (by have := hp.1; have := hp.2; omega)) fun _ h => h
                    replace hq6 := SeqP.map hq6 (fun p hp => far_w7 p (by have := hp.1; have := hp.2; omega)) fun _ h => h
                    replace hp6 := SeqP.map hp6 (fun p hp => far_w7 p (by have := hp.1; have := hp.2; omega)) fun _ h => h
                    clear far_w7 frz_w7 hsz_w7 bel_w7 own_w7
                    refine (same_any a2 A4 c4 B4 k4 A6 c6 B6 k6 w7 (SeqP.imp hq4 (fun b hb => by have := hb.2; omega)) (SeqP.imp hp4 (fun b hb => by have := hb.2; omega)) (SeqP.imp hq6 (fun b hb => by have := hb.2; omega)) (SeqP.imp hp6 (fun b hb => by have := hb.2; omega)) l1.out l2.out).mono ?_
                    rintro e w8 ⟨rfl, hb⟩
                    dsimp only
                    replace d0 := (hb.cell (p := ⟨w.heap.size, 0, none⟩) (by dsimp only; omega)).trans d0
                    replace d1 := (hb.cell (p := ⟨w.heap.size, 1, none⟩) (by dsimp only; omega)).trans d1
                    replace d2 := (hb.cell (p := ⟨w.heap.size, 2, none⟩) (by dsimp only; omega)).trans d2
                    replace d3 := (hb.cell (p := ⟨w.heap.size, 3, none⟩) (by dsimp only; omega)).trans d3
                    replace d4 := (hb.cell (p := ⟨w.heap.size, 4, none⟩) (by dsimp only; omega)).trans d4
                    replace d5 := (hb.cell (p := ⟨w.heap.size, 5, none⟩) (by dsimp only; omega)).trans d5
                    replace dF := frz_below hb (by omega) dF
                    replace p0 := (hb.cell (p := ⟨w4x.heap.size, 0, none⟩) (by dsimp only; omega)).trans p0
                    replace p1 := (hb.cell (p := ⟨w4x.heap.size, 1, none⟩) (by dsimp only; omega)).trans p1
                    replace p2 := (hb.cell (p := ⟨w4x.heap.size, 2, none⟩) (by dsimp only; omega)).trans p2
                    replace p3 := (hb.cell (p := ⟨w4x.heap.size, 3, none⟩) (by dsimp only; omega)).trans p3
                    replace p4 := (hb.cell (p := ⟨w4x.heap.size, 4, none⟩) (by dsimp only; omega)).trans p4
                    replace p5 := (hb.cell (p := ⟨w4x.heap.size, 5, none⟩) (by dsimp only; omega)).trans p5
                    replace pF := frz_below hb (by omega) pF
                    replace q0 := (hb.cell (p := ⟨w6x.heap.size, 0, none⟩) (by dsimp only; omega)).trans q0
                    replace q1 := (hb.cell (p := ⟨w6x.heap.size, 1, none⟩) (by dsimp only; omega)).trans q1
                    replace q2 := (hb.cell (p := ⟨w6x.heap.size, 2, none⟩) (by dsimp only; omega)).trans q2
                    replace q3 := (hb.cell (p := ⟨w6x.heap.size, 3, none⟩) (by dsimp only; omega)).trans q3
                    replace q4 := (hb.cell (p := ⟨w6x.heap.size, 4, none⟩) (by dsimp only; omega)).trans q4
                    replace q5 := (hb.cell (p := ⟨w6x.heap.size, 5, none⟩) (by dsimp only; omega)).trans q5
                    replace qF := frz_below hb (by omega) qF
                    have hbw_w8 := hbw_w7.trans (hb.mono hbw_w7.size)
                    clear hb
                    replace hst := hst.out
                    cases hv : (g.s.app == (g.yes.length : Int) + 2) with
                    | true =>
                      rw [hv] at hst
                      repeat' ((fail_if_success at_builtin); (first | go_skip | go_guarded | go_step))
                      refine (lives_any _).mono ?_
                      rintro e wl ⟨rfl, hbl⟩
                      dsimp only
                      repeat' ((fail_if_success at_builtin); (first | go_skip | go_guarded | go_step))
                      go_ret
                      exact ⟨rfl, hbw_w8.trans (hbl.mono hbw_w8.size)⟩
                    | false =>
                      rw [hv] at hst
                      repeat' ((fail_if_success at_builtin); (first | go_skip | go_guarded | go_step))
                      refine (lives_any _).mono ?_
                      rintro e wl ⟨rfl, hbl⟩
                      dsimp only
                      repeat' ((fail_if_success at_builtin); (first | go_skip | go_guarded | go_step))
                      go_ret
                      exact ⟨rfl, hbw_w8.trans (hbl.mono hbw_w8.size)⟩
                  · have q_f2 : (f2 != 0) = true := by simp [h_f2]
                    clear h_f2
                    clear hq4 hp4 hq6 hp6 hcom
                    repeat' ((fail_if_success at_builtin); (first | go_skip | go_guarded | go_step))
                    refine (lives_any _).mono ?_
                    rintro e wl ⟨rfl, hbl⟩
                    dsimp only
                    repeat' ((fail_if_success at_builtin); (first | go_skip | go_guarded | go_step))
                    go_ret
                    exact ⟨rfl, Below.trans (Below.setCell (p := ⟨w6x.heap.size, 5, none⟩) (Below.setCell (p := ⟨w6x.heap.size, 4, none⟩) (Below.setCell (p := ⟨w6x.heap.size, 3, none⟩) (Below.setCell (p := ⟨w6x.heap.size, 2, none⟩) (Below.setCell (p := ⟨w6x.heap.size, 1, none⟩) (Below.setCell (p := ⟨w6x.heap.size, 0, none⟩) hbw_w7x (by dsimp only; omega) _) (by dsimp only; omega) _) (by dsimp only; omega) _) (by dsimp only; omega) _) (by dsimp only; omega) _) (by dsimp only; omega) _) (hbl.mono (Below.size (Below.setCell (p := ⟨w6x.heap.size, 5, none⟩) (Below.setCell (p := ⟨w6x.heap.size, 4, none⟩) (Below.setCell (p := ⟨w6x.heap.size, 3, none⟩) (Below.setCell (p := ⟨w6x.heap.size, 2, none⟩) (Below.setCell (p := ⟨w6x.heap.size, 1, none⟩) (Below.setCell (p := ⟨w6x.heap.size, 0, none⟩) hbw_w7x (by dsimp only; omega) _) (by dsimp only; omega) _) (by dsimp only; omega) _) (by dsimp only; omega) _) (by dsimp only; omega) _) (by dsimp only; omega) _)))⟩
                · have q_e2 : (e2 != 0) = true := by simp [h_e2]
                  clear h_e2
                  clear hq4 hp4 hq6 hp6 hcom
                  repeat' ((fail_if_success at_builtin); (first | go_skip | go_guarded | go_step))
                  refine (lives_any _).mono ?_
                  rintro e wl ⟨rfl, hbl⟩
                  dsimp only
                  repeat' ((fail_if_success at_builtin); (first | go_skip | go_guarded | go_step))
                  go_ret
                  exact ⟨rfl, Below.trans (Below.setCell (p := ⟨w6x.heap.size, 5, none⟩) (Below.setCell (p := ⟨w6x.heap.size, 4, none⟩) (Below.setCell (p := ⟨w6x.heap.size, 3, none⟩) (Below.setCell (p := ⟨w6x.heap.size, 2, none⟩) (Below.setCell (p := ⟨w6x.heap.size, 1, none⟩) (Below.setCell (p := ⟨w6x.heap.size, 0, none⟩) hbw_w7x (by dsimp only; omega) _) (by dsimp only; omega) _) (by dsimp only; omega) _) (by dsimp only; omega) _) (by dsimp only; omega) _) (by dsimp only; omega) _) (hbl.mono (Below.size (Below.setCell (p := ⟨w6x.heap.size, 5, none⟩) (Below.setCell (p := ⟨w6x.heap.size, 4, none⟩) (Below.setCell (p := ⟨w6x.heap.size, 3, none⟩) (Below.setCell (p := ⟨w6x.heap.size, 2, none⟩) (Below.setCell (p := ⟨w6x.heap.size, 1, none⟩) (Below.setCell (p := ⟨w6x.heap.size, 0, none⟩) hbw_w7x (by dsimp only; omega) _) (by dsimp only; omega) _) (by dsimp only; omega) _) (by dsimp only; omega) _) (by dsimp only; omega) _) (by dsimp only; omega) _)))⟩
              · have q_f1 : (f1 != 0) = true := by simp [h_f1]
                clear h_f1
                clear hq4 hp4 hq6 hp6 hcom
                repeat' ((fail_if_success at_builtin); (first | go_skip | go_guarded | go_step))
                refine (lives_any _).mono ?_
                rintro e wl ⟨rfl, hbl⟩
                dsimp only
                repeat' ((fail_if_success at_builtin); (first | go_skip | go_guarded | go_step))
                go_ret
                exact ⟨rfl, Below.trans (Below.setCell (p := ⟨w6x.heap.size, 5, none⟩) (Below.setCell (p := ⟨w6x.heap.size, 4, none⟩) (Below.setCell (p := ⟨w6x.heap.size, 3, none⟩) (Below.setCell (p := ⟨w6x.heap.size, 2, none⟩) (Below.setCell (p := ⟨w6x.heap.size, 1, none⟩) (Below.setCell (p := ⟨w6x.heap.size, 0, none⟩) hbw_w7x (by dsimp only; omega) _) (by dsimp only; omega) _) (by dsimp only; omega) _) (by dsimp only; omega) _) (by dsimp only; omega) _) (by dsimp only; omega) _) (hbl.mono (Below.size (Below.setCell (p := ⟨w6x.heap.size, 5, none⟩) (Below.setCell (p := ⟨w6x.heap.size, 4, none⟩) (Below.setCell (p := ⟨w6x.heap.size, 3, none⟩) (Below.setCell (p := ⟨w6x.heap.size, 2, none⟩) (Below.setCell (p := ⟨w6x.heap.size, 1, none⟩) (Below.setCell (p := ⟨w6x.heap.size, 0, none⟩) hbw_w7x (by dsimp only; omega) _) (by dsimp only; omega) _) (by dsimp only; omega) _) (by dsimp only; omega) _) (by dsimp only; omega) _) (by dsimp only; omega) _)))⟩
            · have q_e1 : (e1 != 0) = true := by simp [h_e1]
              clear h_e1
              clear hq4 hp4 hq6 hp6 hcom
              repeat' ((fail_if_success at_builtin); (first | go_skip | go_guarded | go_step))
              refine (lives_any _).mono ?_
              rintro e wl ⟨rfl, hbl⟩
              dsimp only
              repeat' ((fail_if_success at_builtin); (first | go_skip | go_guarded | go_step))
              go_ret
              exact ⟨rfl, Below.trans (Below.setCell (p := ⟨w6x.heap.size, 5, none⟩) (Below.setCell (p := ⟨w6x.heap.size, 4, none⟩) (Below.setCell (p := ⟨w6x.heap.size, 3, none⟩) (Below.setCell (p := ⟨w6x.heap.size, 2, none⟩) (Below.setCell (p := ⟨w6x.heap.size, 1, none⟩) (Below.setCell (p := ⟨w6x.heap.size, 0, none⟩) hbw_w7x (by dsimp only; omega) _) (by dsimp only; omega) _) (by dsimp only; omega) _) (by dsimp only; omega) _) (by dsimp only; omega) _) (by dsimp only; omega) _) (hbl.mono (Below.size (Below.setCell (p := ⟨w6x.heap.size, 5, none⟩) (Below.setCell (p := ⟨w6x.heap.size, 4, none⟩) (Below.setCell (p := ⟨w6x.heap.size, 3, none⟩) (Below.setCell (p := ⟨w6x.heap.size, 2, none⟩) (Below.setCell (p := ⟨w6x.heap.size, 1, none⟩) (Below.setCell (p := ⟨w6x.heap.size, 0, none⟩) hbw_w7x (by dsimp only; omega) _) (by dsimp only; omega) _) (by dsimp only; omega) _) (by dsimp only; omega) _) (by dsimp only; omega) _) (by dsimp only; omega) _)))⟩
end Go.Proofs.YtionchkblgpklaaDoor
