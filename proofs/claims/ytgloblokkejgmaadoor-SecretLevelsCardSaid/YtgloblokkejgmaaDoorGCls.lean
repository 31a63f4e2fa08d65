/- Classes: the walk. -/
import Derived.Test.YtgloblokkejgmaaDoorGEl
namespace Go.Proofs.YtgloblokkejgmaaDoor
open Go.RowKit
/-- n bytes more, from c on -/
def addN : Set4 → Nat → Nat → Set4
  | s, _, 0 => s
  | s, c, n + 1 => addN (addS s c) (c + 1) n
/-- the rest of a class: the set so far, the place; the set, the length -/
def clsF (l : List UInt8) : Nat → Nat → Set4 → Option (Set4 × Nat)
  | 0, _, _ => none
  | k + 1, at_, out => if at_ = 1 ∨ (at_ < l.length ∧ l[at_]?.map UInt8.toNat ≠ some 93) then
      match charAt l at_ with
      | none => none
      | some (first, n) => if l[at_ + n]?.map UInt8.toNat = some 45 then
          match charAt l (at_ + n + 1) with
          | none => none
          | some (last, m) => if last < first then none else clsF l k (at_ + n + 1 + m) (addN out first (last + 1 - first))
        else clsF l k (at_ + n) (addN out first 1)
    else if l.length ≤ at_ then none else some (dropS out 47, at_ + 1)
def clsS (l : List UInt8) : Option (Set4 × Nat) := clsF l (l.length + 1) 1 zeroS
theorem charAt_range {l : List UInt8} {i x n : Nat} (h : charAt l i = some (x, n)) : x < 256 ∧ 1 ≤ n ∧ n ≤ 2 ∧ i + n ≤ l.length := by
  unfold charAt at h
  split at h
  · cases h
  · rename_i c hc
    have h1 := (List.getElem?_eq_some_iff.1 hc).1
    split at h
    · cases h
    · split at h
      · simp only [Option.some.injEq, Prod.mk.injEq] at h
        obtain ⟨rfl, rfl⟩ := h
        exact ⟨c.toNat_lt, by omega, by omega, by omega⟩
      · split at h
        · cases h
        · rename_i d hd
          have h2 := (List.getElem?_eq_some_iff.1 hd).1
          simp only [Option.some.injEq, Prod.mk.injEq] at h
          obtain ⟨rfl, rfl⟩ := h
          exact ⟨d.toNat_lt, by omega, by omega, by omega⟩
theorem ext_size (s : ByteArray) (a : Nat) : (s.extract a s.size).size ≤ s.size := by
  have h := ext_list s a s.size
  have h2 := congrArg List.length h
  simp at h2
  simp
theorem addN_fit : ∀ (n c : Nat) (s : Set4), s.fit → (addN s c n).fit
  | 0, _, _, h => h
  | n + 1, c, s, h => addN_fit n (c + 1) _ (fit_add h c)
/-- the class's two blocks: the result, the set -/
def InvC (w wr : World) (s : Set4) : Prop := Below w.heap.size w wr ∧ SetAt wr (w.heap.size + 1) 0 s ∧ s.fit ∧ SetAt wr w.heap.size 0 zeroS
theorem setAt_far {w : World} {g g' o o' : Nat} {s : Set4} (h : SetAt w g o s) (hg : g ≠ g') (v : Value) : SetAt (w.setCell ⟨g', o', none⟩ v).drew g o s := by
  obtain ⟨h0, h1, h2, h3, h4⟩ := h
  refine ⟨?_, ?_, ?_, ?_, fun j => ?_⟩
  · rw [World.cell?_drew, World.cell?_setCell_far _ _ _ _ (fun h => hg h.symm), h0]
  · rw [World.cell?_drew, World.cell?_setCell_far _ _ _ _ (fun h => hg h.symm), h1]
  · rw [World.cell?_drew, World.cell?_setCell_far _ _ _ _ (fun h => hg h.symm), h2]
  · rw [World.cell?_drew, World.cell?_setCell_far _ _ _ _ (fun h => hg h.symm), h3]
  · simp [go_sem, h4]
theorem invC_add {w wr : World} {s : Set4} (h : InvC w wr s) (c : Nat) (hc : c < 256) : InvC w (wr.setCell ⟨w.heap.size + 1, 0 + c / 64, none⟩ (wd (s.get (c / 64) ||| 2 ^ (c % 64)))).drew (addS s c) :=
  ⟨below_set h.1 (by omega) _ _, setAt_set h.2.1 _ _ (by omega), fit_add h.2.2.1 c, setAt_far h.2.2.2 (by omega) _⟩
theorem invC_drop {w wr : World} {s : Set4} (h : InvC w wr s) (c : Nat) (hc : c < 256) : InvC w (wr.setCell ⟨w.heap.size + 1, 0 + c / 64, none⟩ (wd (s.get (c / 64) &&& (18446744073709551615 - 2 ^ (c % 64))))).drew (dropS s c) :=
  ⟨below_set h.1 (by omega) _ _, setAt_set h.2.1 _ _ (by omega), fit_drop h.2.2.1 c, setAt_far h.2.2.2 (by omega) _⟩
def RetC (w : World) (r : Option (Set4 × Nat)) (e : Ending) (w' : World) : Prop := ∃ (s : Set4) (n : Nat), e = .returned (.tuple #[.agg (scells s), .int .i64 (n : Int)]) ∧ (r = none → n = 0) ∧ (∀ s' n', r = some (s', n') → s = s' ∧ n = n') ∧ Below w.heap.size w w'
set_option maxRecDepth 100000 in
set_option maxHeartbeats 4000000 in
theorem class_any (s : ByteArray) (w : World) (hm : s.size ≤ 1000000) (h0 : 0 < s.size) : Calls Tryd.prog 98 #[.string s] w (RetC w (clsS s.data.toList)) := by
  have hsz : s.data.toList.length = s.size := by simp
  have hb0 := (Below.refl w.heap.size w).alloc (Nat.le_refl _) (.cells (scells zeroS) 108)
  have hb1 := hb0.alloc hb0.size (.cells (scells zeroS) 108)
  have hinv : InvC w ((w.alloc (.cells (scells zeroS) 108)).alloc (.cells (scells zeroS) 108)) zeroS := by
    refine ⟨hb1, ⟨?_, ?_, ?_, ?_, fun j => ?_⟩, fit_zero, ⟨?_, ?_, ?_, ?_, fun j => ?_⟩⟩ <;> simp [go_sem]
  unfold clsS
  rw [hsz]
  generalize hl : s.data.toList = l at *
  replace hinv := Lib.hid hinv
  clear hb0 hb1
  go_enter Tryd.func98, Tryd.ntmps98
  repeat' ((fail_if_success at_builtin); (first | go_skip | go_guarded | go_step))
  go_loopw [5] (fun u5 wr => ∃ (a k : Nat) (out : Set4), 1 ≤ a ∧ a ≤ s.size ∧ u5 = .int .i64 (a : Int) ∧ InvC w wr out ∧ clsF l (s.size + 1) 1 zeroS = clsF l k a out ∧ s.size < k + a) (fun u5 _ => s.size + 1 - (intOf u5).toNat)
  case atStart => exact ⟨1, s.size + 1, zeroS, by omega, by omega, rfl, hinv.out, rfl, by omega⟩
  case round =>
    clear hinv
    obtain ⟨a, k, out, ha, hal, rfl, hi, hcl, hk⟩ := hrel
    obtain ⟨k, rfl⟩ : ∃ k', k = k' + 1 := ⟨k - 1, by omega⟩
    have a0 : (0 : Int) ≤ (a : Int) := by omega
    have a1 : (a : Int) ≤ (s.size : Int) := by omega
    by_cases hin : a = 1 ∨ (a < l.length ∧ l[a]?.map UInt8.toNat ≠ some 93)
    · have hcase : (((a : Int) == 1) = true) ∨ (((a : Int) == 1) = false ∧ ∃ h : a < s.size, ((s[a].toNat : Int) != 93) = true ∧ (a : Int) < (s.size : Int)) := by
        by_cases ha1 : a = 1
        · exact .inl (by simp; omega)
        · have hin2 : a < l.length ∧ l[a]?.map UInt8.toNat ≠ some 93 := by
            rcases hin with h | h
            · exact absurd h ha1
            · exact h
          have hlt : a < s.size := by omega
          have hat := str_at hlt
          rw [hl] at hat
          have hx : ¬ (s[a].toNat = 93) := fun h => hin2.2 (by rw [hat, Option.map_some, h])
          have n1 : ¬ ((s[a].toNat : Int) = 93) := by omega
          exact .inr ⟨by simp; omega, hlt, by simpa using n1, by omega⟩
      rcases hcase with q | ⟨q, hlt0, m1, a2⟩
      all_goals
        have hsl : (s.extract a s.size).data.toList = l.drop a := by
          rw [ext_list, hl, List.take_of_length_le (by rw [List.length_drop]; omega)]
        have hC := char_any (s.extract a s.size) wr (by have := ext_size s a; omega)
        rw [hsl, charAt_drop] at hC
        replace hC := Lib.hid hC
        repeat' ((fail_if_success at_builtin); (first | go_skip | go_guarded | go_step))
        refine hC.out.mono ?_
        rintro e w' ⟨rfl, rfl⟩
        clear hC
        dsimp only
        cases hch : charAt l a with
        | none =>
          have hres : clsF l (k + 1) a out = none := by unfold clsF; rw [if_pos hin, hch]
          simp only [ch1, ch2, Int.natCast_zero]
          obtain ⟨hbI, ⟨e0, e1, e2, e3, ef⟩, hfI, ⟨y0, y1, y2, y3, yf⟩⟩ := hi
          have f0 := yf 0
          have f1 := yf 1
          have f2 := yf 2
          have f3 := yf 3
          clear ef yf
          simp only [Nat.zero_add] at e1 e2 e3 y1 y2 y3
          repeat' ((fail_if_success at_builtin); (first | go_skip | go_guarded | go_step))
          refine bodyPost_ret (v := .tuple #[.agg (scells out), .int .i64 0]) ?_ rfl ?_
          · simp only [results, Tryd.results98]
            go_simp
            try exact ⟨rfl, rfl, rfl, rfl⟩
          · refine ⟨out, _, rfl, ?_, ?_, ((((hbI.setCell (p := ⟨w.heap.size, 0, none⟩) (Nat.le_refl _) _).setCell (p := ⟨w.heap.size, 1, none⟩) (Nat.le_refl _) _).setCell (p := ⟨w.heap.size, 2, none⟩) (Nat.le_refl _) _).setCell (p := ⟨w.heap.size, 3, none⟩) (Nat.le_refl _) _)⟩
            · intro _; rfl
            · intro s' n' h; rw [hcl, hres] at h; cases h
        | some p =>
          obtain ⟨x, n⟩ := p
          obtain ⟨hx1, hn1, hn2, hn3⟩ := charAt_range hch
          simp only [ch1, ch2]
          have q1 : ¬ ((n : Int) = 0) := by omega
          have hat1 : IntKind.i64.wrap ((a : Int) + (n : Int)) = ((a + n : Nat) : Int) := by rw [IntWalk.i64_in _ (by omega)]; push_cast; rfl
          by_cases hd : l[a + n]?.map UInt8.toNat = some 45
          · have hlt : a + n < s.size := by
              cases hq : l[a + n]? with
              | none => rw [hq] at hd; cases hd
              | some z => have := (List.getElem?_eq_some_iff.1 hq).1; omega
            have hat := str_at hlt
            rw [hl] at hat
            have hx45 : s[a + n].toNat = 45 := by rw [hat] at hd; simpa using hd
            have m45 : ((s[a + n].toNat : Int) == 45) = true := by simp; omega
            have b0 : (0 : Int) ≤ ((a + n : Nat) : Int) := by omega
            have b1 : ((a + n : Nat) : Int) < (s.size : Int) := by omega
            have hat2 : IntKind.i64.wrap (((a + n : Nat) : Int) + 1) = ((a + n + 1 : Nat) : Int) := by rw [IntWalk.i64_in _ (by omega)]; push_cast; rfl
            have b2 : (0 : Int) ≤ ((a + n + 1 : Nat) : Int) := by omega
            have b3 : ((a + n + 1 : Nat) : Int) ≤ (s.size : Int) := by omega
            have hsl2 : (s.extract (a + n + 1) s.size).data.toList = l.drop (a + n + 1) := by
              rw [ext_list, hl, List.take_of_length_le (by rw [List.length_drop]; omega)]
            have hC2 := char_any (s.extract (a + n + 1) s.size) w' (by have := ext_size s (a + n + 1); omega)
            rw [hsl2, charAt_drop] at hC2
            replace hC2 := Lib.hid hC2
            generalize hA : a + n = A at *
            generalize hB : A + 1 = B at *
            repeat' ((fail_if_success at_builtin); (first | go_skip | go_guarded | go_step))
            refine hC2.out.mono ?_
            rintro e w'' ⟨rfl, rfl⟩
            clear hC2
            dsimp only
            cases hch2 : charAt l B with
            | none =>
              have hres : clsF l (k + 1) a out = none := by unfold clsF; rw [if_pos hin, hch]; dsimp only; rw [hA, if_pos hd, hB, hch2]
              simp only [ch1, ch2, Int.natCast_zero]
              obtain ⟨hbI, ⟨e0, e1, e2, e3, ef⟩, hfI, ⟨y0, y1, y2, y3, yf⟩⟩ := hi
              have f0 := yf 0
              have f1 := yf 1
              have f2 := yf 2
              have f3 := yf 3
              clear ef yf
              simp only [Nat.zero_add] at e1 e2 e3 y1 y2 y3
              repeat' ((fail_if_success at_builtin); (first | go_skip | go_guarded | go_step))
              refine bodyPost_ret (v := .tuple #[.agg (scells out), .int .i64 0]) ?_ rfl ?_
              · simp only [results, Tryd.results98]
                go_simp
                try exact ⟨rfl, rfl, rfl, rfl⟩
              · refine ⟨out, _, rfl, ?_, ?_, ((((hbI.setCell (p := ⟨w.heap.size, 0, none⟩) (Nat.le_refl _) _).setCell (p := ⟨w.heap.size, 1, none⟩) (Nat.le_refl _) _).setCell (p := ⟨w.heap.size, 2, none⟩) (Nat.le_refl _) _).setCell (p := ⟨w.heap.size, 3, none⟩) (Nat.le_refl _) _)⟩
                · intro _; rfl
                · intro s' n' h; rw [hcl, hres] at h; cases h
            | some p2 =>
              obtain ⟨y, m⟩ := p2
              obtain ⟨hy1, hm1, hm2, hm3⟩ := charAt_range hch2
              simp only [ch1, ch2]
              have q2 : ¬ ((m : Int) = 0) := by omega
              by_cases hyx : y < x
              · have hres : clsF l (k + 1) a out = none := by unfold clsF; rw [if_pos hin, hch]; dsimp only; rw [hA, if_pos hd, hB, hch2]; dsimp only; rw [if_pos hyx]
                have q3 : (y : Int) < (x : Int) := by omega
                obtain ⟨hbI, ⟨e0, e1, e2, e3, ef⟩, hfI, ⟨y0, y1, y2, y3, yf⟩⟩ := hi
                have f0 := yf 0
                have f1 := yf 1
                have f2 := yf 2
                have f3 := yf 3
                clear ef yf
                simp only [Nat.zero_add] at e1 e2 e3 y1 y2 y3
                repeat' ((fail_if_success at_builtin); (first | go_skip | go_guarded | go_step))
                refine bodyPost_ret (v := .tuple #[.agg (scells out), .int .i64 0]) ?_ rfl ?_
                · simp only [results, Tryd.results98]
                  go_simp
                  try exact ⟨rfl, rfl, rfl, rfl⟩
                · refine ⟨out, _, rfl, ?_, ?_, ((((hbI.setCell (p := ⟨w.heap.size, 0, none⟩) (Nat.le_refl _) _).setCell (p := ⟨w.heap.size, 1, none⟩) (Nat.le_refl _) _).setCell (p := ⟨w.heap.size, 2, none⟩) (Nat.le_refl _) _).setCell (p := ⟨w.heap.size, 3, none⟩) (Nat.le_refl _) _)⟩
                  · intro _; rfl
                  · intro s' n' h; rw [hcl, hres] at h; cases h
              · have hres : clsF l (k + 1) a out = clsF l k (B + m) (addN out x (y + 1 - x)) := by rw [clsF]; rw [if_pos hin, hch]; dsimp only; rw [hA, if_pos hd, hB, hch2]; dsimp only; rw [if_neg hyx]
                have q3 : ¬ ((y : Int) < (x : Int)) := by omega
                have q4 : IntKind.i64.wrap (1 + (m : Int)) = ((1 + m : Nat) : Int) := by rw [IntWalk.i64_in _ (by omega)]; push_cast; rfl
                have q5 : IntKind.i64.wrap ((A : Int) + ((1 + m : Nat) : Int)) = ((B + m : Nat) : Int) := by rw [IntWalk.i64_in _ (by omega)]; omega
                repeat' ((fail_if_success at_builtin); (first | go_skip | go_guarded | go_step))
                go_loopw [9] (fun u9 wx => ∃ (c : Nat) (o2 : Set4), x ≤ c ∧ c ≤ y + 1 ∧ u9 = .int .i64 (c : Int) ∧ InvC w wx o2 ∧ addN o2 c (y + 1 - c) = addN out x (y + 1 - x)) (fun u9 _ => y + 1 - (intOf u9).toNat)
                case atStart => exact ⟨x, out, by omega, by omega, rfl, hi, rfl⟩
                case round =>
                  obtain ⟨c, o2, hc1, hc2, rfl, hi2, hadd⟩ := hrel
                  by_cases hc : c ≤ y
                  · have hw8 : IntKind.u8.wrap (c : Int) = (c : Int) := by rw [IntKind.wrap_u8]; omega
                    have C := add_any o2 c (w.heap.size + 1) 0 _ (by omega) hi2.2.2.1 hi2.2.1
                    have hi3 := invC_add hi2 c (by omega)
                    have hc3 : (c : Int) ≤ (y : Int) := by omega
                    replace C := Lib.hid C
                    repeat' ((fail_if_success at_builtin); (first | go_skip | go_guarded | go_step))
                    refine C.out.mono ?_
                    rintro e w1 ⟨rfl, hw1⟩
                    rw [← hw1] at hi3
                    clear hw1 C
                    dsimp only
                    repeat' ((fail_if_success at_builtin); (first | go_skip | go_guarded | go_step))
                    go_roundw
                    case rel =>
                      refine ⟨c + 1, addS o2 c, by omega, by omega, by go_num, hi3, ?_⟩
                      rw [← hadd, show y + 1 - c = (y + 1 - (c + 1)) + 1 by omega]
                      rfl
                    case measure => simp [intOf]; omega
                  · have hc3 : ¬ ((c : Int) ≤ (y : Int)) := by omega
                    have hce : y + 1 - c = 0 := by omega
                    rw [hce] at hadd
                    have hadd : o2 = addN out x (y + 1 - x) := hadd
                    repeat' ((fail_if_success at_builtin); (first | go_skip | go_guarded | go_step))
                    go_roundw
                    case rel => exact ⟨B + m, k, o2, by omega, by omega, by go_num, hi2, by rw [hcl, hres, hadd], by omega⟩
                    case measure => simp [intOf]; omega
          · have hres : clsF l (k + 1) a out = clsF l k (a + n) (addN out x 1) := by rw [clsF]; rw [if_pos hin, hch]; dsimp only; rw [if_neg hd]
            have b0 : (0 : Int) ≤ ((a + n : Nat) : Int) := by omega
            have hnd : ((a + n : Nat) : Int) < (s.size : Int) → ∃ h : a + n < s.size, ((s[a + n].toNat : Int) == 45) = false := by
              intro h
              have hlt : a + n < s.size := by omega
              have hat := str_at hlt
              rw [hl] at hat
              refine ⟨hlt, ?_⟩
              have : ¬ (s[a + n].toNat = 45) := fun h => hd (by rw [hat, Option.map_some, h])
              simp; omega
            by_cases hlt : a + n < s.size
            · obtain ⟨_, m45⟩ := hnd (by omega)
              have b1 : ((a + n : Nat) : Int) < (s.size : Int) := by omega
              generalize hA : a + n = A at *
              repeat' ((fail_if_success at_builtin); (first | go_skip | go_guarded | go_step))
              go_loopw [9] (fun u9 wx => ∃ (c : Nat) (o2 : Set4), x ≤ c ∧ c ≤ x + 1 ∧ u9 = .int .i64 (c : Int) ∧ InvC w wx o2 ∧ addN o2 c (x + 1 - c) = addN out x (x + 1 - x)) (fun u9 _ => x + 1 - (intOf u9).toNat)
              case atStart => exact ⟨x, out, by omega, by omega, rfl, hi, rfl⟩
              case round =>
                obtain ⟨c, o2, hc1, hc2, rfl, hi2, hadd⟩ := hrel
                by_cases hc : c ≤ x
                · have hw8 : IntKind.u8.wrap (c : Int) = (c : Int) := by rw [IntKind.wrap_u8]; omega
                  have C := add_any o2 c (w.heap.size + 1) 0 _ (by omega) hi2.2.2.1 hi2.2.1
                  have hi3 := invC_add hi2 c (by omega)
                  have hc3 : (c : Int) ≤ (x : Int) := by omega
                  replace C := Lib.hid C
                  repeat' ((fail_if_success at_builtin); (first | go_skip | go_guarded | go_step))
                  refine C.out.mono ?_
                  rintro e w1 ⟨rfl, hw1⟩
                  rw [← hw1] at hi3
                  clear hw1 C
                  dsimp only
                  repeat' ((fail_if_success at_builtin); (first | go_skip | go_guarded | go_step))
                  go_roundw
                  case rel =>
                    refine ⟨c + 1, addS o2 c, by omega, by omega, by go_num, hi3, ?_⟩
                    rw [← hadd, show x + 1 - c = (x + 1 - (c + 1)) + 1 by omega]
                    rfl
                  case measure => simp [intOf]; omega
                · have hc3 : ¬ ((c : Int) ≤ (x : Int)) := by omega
                  have hce : x + 1 - c = 0 := by omega
                  rw [hce] at hadd
                  have hadd : o2 = addN out x (x + 1 - x) := hadd
                  repeat' ((fail_if_success at_builtin); (first | go_skip | go_guarded | go_step))
                  go_roundw
                  case rel => exact ⟨A, k, o2, by omega, by omega, by go_num, hi2, by rw [hcl, hres, hadd, show x + 1 - x = 1 by omega], by omega⟩
                  case measure => simp [intOf]; omega
            · have b1 : ¬ (((a + n : Nat) : Int) < (s.size : Int)) := by omega
              generalize hA : a + n = A at *
              clear hnd
              repeat' ((fail_if_success at_builtin); (first | go_skip | go_guarded | go_step))
              go_loopw [9] (fun u9 wx => ∃ (c : Nat) (o2 : Set4), x ≤ c ∧ c ≤ x + 1 ∧ u9 = .int .i64 (c : Int) ∧ InvC w wx o2 ∧ addN o2 c (x + 1 - c) = addN out x (x + 1 - x)) (fun u9 _ => x + 1 - (intOf u9).toNat)
              case atStart => exact ⟨x, out, by omega, by omega, rfl, hi, rfl⟩
              case round =>
                obtain ⟨c, o2, hc1, hc2, rfl, hi2, hadd⟩ := hrel
                by_cases hc : c ≤ x
                · have hw8 : IntKind.u8.wrap (c : Int) = (c : Int) := by rw [IntKind.wrap_u8]; omega
                  have C := add_any o2 c (w.heap.size + 1) 0 _ (by omega) hi2.2.2.1 hi2.2.1
                  have hi3 := invC_add hi2 c (by omega)
                  have hc3 : (c : Int) ≤ (x : Int) := by omega
                  replace C := Lib.hid C
                  repeat' ((fail_if_success at_builtin); (first | go_skip | go_guarded | go_step))
                  refine C.out.mono ?_
                  rintro e w1 ⟨rfl, hw1⟩
                  rw [← hw1] at hi3
                  clear hw1 C
                  dsimp only
                  repeat' ((fail_if_success at_builtin); (first | go_skip | go_guarded | go_step))
                  go_roundw
                  case rel =>
                    refine ⟨c + 1, addS o2 c, by omega, by omega, by go_num, hi3, ?_⟩
                    rw [← hadd, show x + 1 - c = (x + 1 - (c + 1)) + 1 by omega]
                    rfl
                  case measure => simp [intOf]; omega
                · have hc3 : ¬ ((c : Int) ≤ (x : Int)) := by omega
                  have hce : x + 1 - c = 0 := by omega
                  rw [hce] at hadd
                  have hadd : o2 = addN out x (x + 1 - x) := hadd
                  repeat' ((fail_if_success at_builtin); (first | go_skip | go_guarded | go_step))
                  go_roundw
                  case rel => exact ⟨A, k, o2, by omega, by omega, by go_num, hi2, by rw [hcl, hres, hadd, show x + 1 - x = 1 by omega], by omega⟩
                  case measure => simp [intOf]; omega
    · have ha1 : ¬ (a = 1) := fun h => hin (.inl h)
      have q : ((a : Int) == 1) = false := by simp; omega
      by_cases hge : l.length ≤ a
      · have hres : clsF l (k + 1) a out = none := by unfold clsF; rw [if_neg hin, if_pos hge]
        have q2 : ¬ ((a : Int) < (s.size : Int)) := by omega
        have q3 : (s.size : Int) ≤ (a : Int) := by omega
        obtain ⟨hbI, ⟨e0, e1, e2, e3, ef⟩, hfI, ⟨y0, y1, y2, y3, yf⟩⟩ := hi
        have f0 := yf 0
        have f1 := yf 1
        have f2 := yf 2
        have f3 := yf 3
        clear ef yf
        simp only [Nat.zero_add] at e1 e2 e3 y1 y2 y3
        repeat' ((fail_if_success at_builtin); (first | go_skip | go_guarded | go_step))
        refine bodyPost_ret (v := .tuple #[.agg (scells out), .int .i64 0]) ?_ rfl ?_
        · simp only [results, Tryd.results98]
          go_simp
          try exact ⟨rfl, rfl, rfl, rfl⟩
        · refine ⟨out, _, rfl, ?_, ?_, ((((hbI.setCell (p := ⟨w.heap.size, 0, none⟩) (Nat.le_refl _) _).setCell (p := ⟨w.heap.size, 1, none⟩) (Nat.le_refl _) _).setCell (p := ⟨w.heap.size, 2, none⟩) (Nat.le_refl _) _).setCell (p := ⟨w.heap.size, 3, none⟩) (Nat.le_refl _) _)⟩
          · intro _; rfl
          · intro s' n' h; rw [hcl, hres] at h; cases h
      · have hres : clsF l (k + 1) a out = some (dropS out 47, a + 1) := by unfold clsF; rw [if_neg hin, if_neg hge]
        have hlt : a < s.size := by omega
        have hat := str_at hlt
        rw [hl] at hat
        have hx : s[a].toNat = 93 := by
          refine Decidable.byContradiction fun h => hin (.inr ⟨by omega, ?_⟩)
          rw [hat, Option.map_some]
          intro h2
          injection h2 with h2
          exact h h2
        have m1 : ((s[a].toNat : Int) != 93) = false := by simp; omega
        have q2 : (a : Int) < (s.size : Int) := by omega
        have q3 : ¬ ((s.size : Int) ≤ (a : Int)) := by omega
        have q4 : IntKind.i64.wrap ((a : Int) + 1) = (a : Int) + 1 := IntWalk.i64_in _ (by omega)
        have C := drop_any out 47 (w.heap.size + 1) 0 _ (by omega) hi.2.2.1 hi.2.1
        have hi3 := invC_drop hi 47 (by omega)
        replace C := Lib.hid C
        repeat' ((fail_if_success at_builtin); (first | go_skip | go_guarded | go_step))
        refine C.out.mono ?_
        rintro e w1 ⟨rfl, hw1⟩
        rw [← hw1] at hi3
        clear hw1 C
        dsimp only
        obtain ⟨hbI, ⟨e0, e1, e2, e3, ef⟩, hfI, ⟨y0, y1, y2, y3, yf⟩⟩ := hi3
        have f0 := yf 0
        have f1 := yf 1
        have f2 := yf 2
        have f3 := yf 3
        clear ef yf
        simp only [Nat.zero_add] at e1 e2 e3 y1 y2 y3
        repeat' ((fail_if_success at_builtin); (first | go_skip | go_guarded | go_step))
        refine bodyPost_ret (v := .tuple #[.agg (scells (dropS out 47)), .int .i64 ((a : Int) + 1)]) ?_ rfl ?_
        · simp only [results, Tryd.results98]
          go_simp
          try exact ⟨rfl, rfl, rfl, rfl⟩
        · refine ⟨(dropS out 47), a + 1, rfl, ?_, ?_, ((((hbI.setCell (p := ⟨w.heap.size, 0, none⟩) (Nat.le_refl _) _).setCell (p := ⟨w.heap.size, 1, none⟩) (Nat.le_refl _) _).setCell (p := ⟨w.heap.size, 2, none⟩) (Nat.le_refl _) _).setCell (p := ⟨w.heap.size, 3, none⟩) (Nat.le_refl _) _)⟩
          · intro h; rw [hcl, hres] at h; cases h
          · intro s' n' h; rw [hcl, hres] at h; cases h; exact ⟨rfl, rfl⟩
end Go.Proofs.YtgloblokkejgmaaDoor
