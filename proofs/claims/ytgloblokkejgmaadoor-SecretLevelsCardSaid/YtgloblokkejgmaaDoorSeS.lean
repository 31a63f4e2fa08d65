/- Secret: index, Equal and Same of equal lists, short. -/
import Derived.Test.YtgloblokkejgmaaDoorSePut
import Derived.Deep.RegionHeld3
import Derived.Test.YtgloblokkejgmaaDoorHk
namespace Go.Proofs.YtgloblokkejgmaaDoor
open Go.RowKit
set_option maxRecDepth 100000 in
set_option maxHeartbeats 2000000 in
theorem refIndex_any (s : ByteArray) (l : List Sec) (A : Option Addr) (n c : Nat) (w : World) (h : Secs w A n c l) :
    Calls Tryd.prog 39 #[.slice A n c, .string s] w fun e w' => e = .returned (.int .i64 (posI (sameN s.data.toList) l)) ∧ Below w.heap.size w w' := by
  have hn := h.n
  have hl := h.len
  replace hn := Lib.hid hn
  obtain ⟨f, hf⟩ : ∃ f, f = sameN s.data.toList := ⟨_, rfl⟩
  rw [← hf]
  replace hf := Lib.hid hf
  go_enter Tryd.func39, Tryd.ntmps39
  repeat' ((fail_if_success at_builtin); (first | go_skip | go_guarded | go_step))
  go_loopw [5] (fun u8 wr => ∃ i : Nat, i ≤ n ∧ u8 = .int .i64 (i : Int) ∧ Below w.heap.size w wr ∧ posA f l = i + posA f (l.drop i)) (fun u8 _ => n - (intOf u8).toNat)
  case atStart => exact ⟨0, by omega, rfl, Below.refl _ _, by simp⟩
  case round =>
    obtain ⟨i, hi, rfl, hb, hp⟩ := hrel
    replace hp := Lib.hid hp
    have i0 : (0 : Int) ≤ (i : Int) := by omega
    have i2 : IntKind.i64.wrap ((i : Int) + 1) = (i : Int) + 1 := IntWalk.i64_in _ (by have := hn.out; omega)
    by_cases hlt : i < n
    · have i1 : (i : Int) < (n : Int) := by omega
      obtain ⟨x, hx⟩ : ∃ x, l[i]? = some x := ⟨_, List.getElem?_eq_getElem (by have := hn.out; omega)⟩
      obtain ⟨g, o, A1, c1, A2, c2, rfl, hg, hS⟩ := sec_at h.rd hx
      have hS2 := hS.below hg hb
      have e0 := hS2.e0
      have hfx : f x = (x.name.toList == s.toList) := by rw [hf.out, sameN_def]
      clear hS hS2
      replace hx := Lib.hid hx
      cases hv : f x with
      | true =>
        rw [hv] at hfx
        have hfx' := hfx.symm
        have hr := posA_hit hx.out hp.out hv
        clear hfx
        replace hr := Lib.hid hr
        repeat' ((fail_if_success at_builtin); (first | go_skip | go_guarded | go_step))
        go_ret
        exact ⟨by rw [hr.out]; rfl, hb⟩
      | false =>
        rw [hv] at hfx
        have hfx' := hfx.symm
        have hr := posA_miss hx.out hp.out hv
        clear hfx
        replace hr := Lib.hid hr
        repeat' ((fail_if_success at_builtin); (first | go_skip | go_guarded | go_step))
        go_roundw
        case rel => exact ⟨i + 1, by omega, by first | rfl | go_num, hb, hr.out⟩
        case measure => (try go_num); (try simp [intOf]); (try omega)
    · have i1 : ¬ (i : Int) < (n : Int) := by omega
      have hr := posA_end (by rw [hn.out]; omega) hp.out
      replace hr := Lib.hid hr
      repeat' ((fail_if_success at_builtin); (first | go_skip | go_guarded | go_step))
      go_ret
      exact ⟨by rw [hr.out]; rfl, hb⟩
set_option maxRecDepth 100000 in
set_option maxHeartbeats 2000000 in
theorem refEqual_any (x : Sec) (A1 : Option Addr) (c1 : Nat) (A2 : Option Addr) (c2 : Nat) (B1 : Option Addr) (d1 : Nat) (B2 : Option Addr) (d2 : Nat) (w : World) (h1 : StrsR w (fun b => b < w.heap.size) A1 c1 x.refs) (h2 : StrsR w (fun b => b < w.heap.size) A2 c2 x.envs) (g1 : StrsR w (fun b => b < w.heap.size) B1 d1 x.refs) (g2 : StrsR w (fun b => b < w.heap.size) B2 d2 x.envs) (hx : SecW x) :
    Calls Tryd.prog 41 #[.agg #[.string x.name, .string x.text, .int .i64 x.level, .slice A1 x.refs.length c1, .slice A2 x.envs.length c2], .agg #[.string x.name, .string x.text, .int .i64 x.level, .slice B1 x.refs.length d1, .slice B2 x.envs.length d2]] w fun e w' => e = .returned (.bool true) ∧ Below w.heap.size w w' := by
  have q1 : (x.name.toList == x.name.toList) = true := by simp
  have q2 : (x.text.toList == x.text.toList) = true := by simp
  have q3 : (x.level == x.level) = true := by simp
  go_enter Tryd.func41, Tryd.ntmps41
  go_upto_region 1 with (fail)
  generalize hx_ : World.alloc (World.alloc w _) _ = wo1
  have hO1 : OwnB w wo1 [(w.heap.size + 1, [.string x.name, .string x.text, .int .i64 x.level, .slice B1 x.refs.length d1, .slice B2 x.envs.length d2]), (w.heap.size, [.string x.name, .string x.text, .int .i64 x.level, .slice A1 x.refs.length c1, .slice A2 x.envs.length c2])] := by rw [← hx_]; exact ((OwnB.refl w).new #[.string x.name, .string x.text, .int .i64 x.level, .slice A1 x.refs.length c1, .slice A2 x.envs.length c2] _ (g := w.heap.size)).new #[.string x.name, .string x.text, .int .i64 x.level, .slice B1 x.refs.length d1, .slice B2 x.envs.length d2] _ (g := w.heap.size + 1)
  have hbn : Below w.heap.size w wo1 := by rw [← hx_]; exact ((Below.refl _ _).alloc (Nat.le_refl _) _).alloc (by simp) _
  have zwo1 : wo1.heap.size = w.heap.size + 2 := by rw [← hx_]; simp
  clear hx_
  have c0_0 : wo1.cell? ⟨w.heap.size + 1, 0, none⟩ = some (.string x.name) := hO1.c 0 0
  have c0_1 : wo1.cell? ⟨w.heap.size + 1, 1, none⟩ = some (.string x.text) := hO1.c 0 1
  have c0_2 : wo1.cell? ⟨w.heap.size + 1, 2, none⟩ = some (.int .i64 x.level) := hO1.c 0 2
  have c0_3 : wo1.cell? ⟨w.heap.size + 1, 3, none⟩ = some (.slice B1 x.refs.length d1) := hO1.c 0 3
  have c0_4 : wo1.cell? ⟨w.heap.size + 1, 4, none⟩ = some (.slice B2 x.envs.length d2) := hO1.c 0 4
  have cf0 := hO1.fr 0
  have c1_0 : wo1.cell? ⟨w.heap.size, 0, none⟩ = some (.string x.name) := hO1.c 1 0
  have c1_1 : wo1.cell? ⟨w.heap.size, 1, none⟩ = some (.string x.text) := hO1.c 1 1
  have c1_2 : wo1.cell? ⟨w.heap.size, 2, none⟩ = some (.int .i64 x.level) := hO1.c 1 2
  have c1_3 : wo1.cell? ⟨w.heap.size, 3, none⟩ = some (.slice A1 x.refs.length c1) := hO1.c 1 3
  have c1_4 : wo1.cell? ⟨w.heap.size, 4, none⟩ = some (.slice A2 x.envs.length c2) := hO1.c 1 4
  have cf1 := hO1.fr 1
  clear hbn
  have hz := hO1.below
  have C1 := fun w' (hb : Below wo1.heap.size wo1 w') => refSame_any x.refs x.refs A1 B1 c1 d1 w.heap.size w.heap.size w' (h1.seq.map (fun _ hp => (hb.cell (Nat.lt_of_lt_of_le hp hz.size)).trans (hz.cell hp)) fun _ h => h) (g1.seq.map (fun _ hp => (hb.cell (Nat.lt_of_lt_of_le hp hz.size)).trans (hz.cell hp)) fun _ h => h) (by have := hx.refs; omega)
  have C2 := fun w' (hb : Below wo1.heap.size wo1 w') => refSame_any x.envs x.envs A2 B2 c2 d2 w.heap.size w.heap.size w' (h2.seq.map (fun _ hp => (hb.cell (Nat.lt_of_lt_of_le hp hz.size)).trans (hz.cell hp)) fun _ h => h) (g2.seq.map (fun _ hp => (hb.cell (Nat.lt_of_lt_of_le hp hz.size)).trans (hz.cell hp)) fun _ h => h) (by have := hx.envs; omega)
  replace C1 := Lib.hid C1
  replace C2 := Lib.hid C2
  repeat' ((fail_if_success at_builtin); (first | go_skip | go_guarded | go_step))
  refine (C1.out _ (Below.refl _ _)).mono ?_
  rintro e w1 ⟨rfl, hb1⟩
  dsimp only
  rw [sameL_refl]
  have zw1 := hb1.size
  have hO2 : OwnB w w1 [(w.heap.size + 1, [.string x.name, .string x.text, .int .i64 x.level, .slice B1 x.refs.length d1, .slice B2 x.envs.length d2]), (w.heap.size, [.string x.name, .string x.text, .int .i64 x.level, .slice A1 x.refs.length c1, .slice A2 x.envs.length c2])] := hO1.kept hb1
  clear c0_0 c0_1 c0_2 c0_3 c0_4 cf0 c1_0 c1_1 c1_2 c1_3 c1_4 cf1 hO1
  have c0_0 : w1.cell? ⟨w.heap.size + 1, 0, none⟩ = some (.string x.name) := hO2.c 0 0
  have c0_1 : w1.cell? ⟨w.heap.size + 1, 1, none⟩ = some (.string x.text) := hO2.c 0 1
  have c0_2 : w1.cell? ⟨w.heap.size + 1, 2, none⟩ = some (.int .i64 x.level) := hO2.c 0 2
  have c0_3 : w1.cell? ⟨w.heap.size + 1, 3, none⟩ = some (.slice B1 x.refs.length d1) := hO2.c 0 3
  have c0_4 : w1.cell? ⟨w.heap.size + 1, 4, none⟩ = some (.slice B2 x.envs.length d2) := hO2.c 0 4
  have cf0 := hO2.fr 0
  have c1_0 : w1.cell? ⟨w.heap.size, 0, none⟩ = some (.string x.name) := hO2.c 1 0
  have c1_1 : w1.cell? ⟨w.heap.size, 1, none⟩ = some (.string x.text) := hO2.c 1 1
  have c1_2 : w1.cell? ⟨w.heap.size, 2, none⟩ = some (.int .i64 x.level) := hO2.c 1 2
  have c1_3 : w1.cell? ⟨w.heap.size, 3, none⟩ = some (.slice A1 x.refs.length c1) := hO2.c 1 3
  have c1_4 : w1.cell? ⟨w.heap.size, 4, none⟩ = some (.slice A2 x.envs.length c2) := hO2.c 1 4
  have cf1 := hO2.fr 1
  have C3 := C2.out w1 hb1
  rw [sameL_refl] at C3
  replace C3 := Lib.hid C3
  clear C1 C2
  repeat' ((fail_if_success at_builtin); (first | go_skip | go_guarded | go_step))
  refine C3.out.mono ?_
  clear C3
  rintro e w2 ⟨rfl, hb2⟩
  dsimp only
  have hbf := (hz.trans (hb1.mono hz.size)).trans (hb2.mono (Nat.le_trans hz.size hb1.size))
  repeat' ((fail_if_success at_builtin); (first | go_skip | go_guarded | go_step))
  go_ret
  exact ⟨rfl, hbf⟩
set_option maxRecDepth 100000 in
set_option maxHeartbeats 4000000 in
theorem refSameS_any (l : List Sec) (A : Option Addr) (n c : Nat) (B : Option Addr) (d : Nat) (w : World) (h : Secs w A n c l) (k : Secs w B n d l) :
    Calls Tryd.prog 15 #[.slice A n c, .slice B n d] w fun e w' => e = .returned (.bool true) ∧ Below w.heap.size w w' := by
  have hn := h.n
  have hl := h.len
  have q1 : ((n : Int) != (n : Int)) = false := by simp
  replace hn := Lib.hid hn
  go_enter Tryd.func15, Tryd.ntmps15
  repeat' ((fail_if_success at_builtin); (first | go_skip | go_guarded | go_step))
  go_loopw [5] (fun u8 wr => ∃ i : Nat, i ≤ n ∧ u8 = .int .i64 (i : Int) ∧ Below w.heap.size w wr) (fun u8 _ => n - (intOf u8).toNat)
  case atStart => exact ⟨0, by omega, rfl, Below.refl _ _⟩
  case round =>
    obtain ⟨i, hi, rfl, hb⟩ := hrel
    have i0 : (0 : Int) ≤ (i : Int) := by omega
    have i2 : IntKind.i64.wrap ((i : Int) + 1) = (i : Int) + 1 := IntWalk.i64_in _ (by have := hn.out; omega)
    by_cases hlt : i < n
    · have i1 : (i : Int) < (n : Int) := by omega
      obtain ⟨x, hx⟩ : ∃ x, l[i]? = some x := ⟨_, List.getElem?_eq_getElem (by have := hn.out; omega)⟩
      have hxw := h.each x (List.mem_of_getElem? hx)
      obtain ⟨g, o, A1, c1, A2, c2, rfl, hg, hS⟩ := sec_at h.rd hx
      obtain ⟨g', o', B1, d1, B2, d2, rfl, hg', hS'⟩ := sec_at k.rd hx
      have hS2 := hS.below hg hb
      have hS2' := hS'.below hg' hb
      have hz := hb.size
      clear hx
      have hS0 : (Below w.heap.size w wr ∧ wr.cell? ⟨g, o + i * 5, none⟩ = some (.string x.name) ∧ wr.cell? ⟨g, o + i * 5 + 1, none⟩ = some (.string x.text) ∧ wr.cell? ⟨g, o + i * 5 + 2, none⟩ = some (.int .i64 x.level) ∧ wr.cell? ⟨g, o + i * 5 + 3, none⟩ = some (.slice A1 x.refs.length c1) ∧ wr.cell? ⟨g, o + i * 5 + 4, none⟩ = some (.slice A2 x.envs.length c2) ∧ wr.cell? ⟨g', o' + i * 5, none⟩ = some (.string x.name) ∧ wr.cell? ⟨g', o' + i * 5 + 1, none⟩ = some (.string x.text) ∧ wr.cell? ⟨g', o' + i * 5 + 2, none⟩ = some (.int .i64 x.level) ∧ wr.cell? ⟨g', o' + i * 5 + 3, none⟩ = some (.slice B1 x.refs.length d1) ∧ wr.cell? ⟨g', o' + i * 5 + 4, none⟩ = some (.slice B2 x.envs.length d2)) := ⟨hb, hS2.e0, hS2.e1, hS2.e2, hS2.e3, hS2.e4, hS2'.e0, hS2'.e1, hS2'.e2, hS2'.e3, hS2'.e4⟩
      have keepS : ∀ v1 v2 : World, (Below w.heap.size w v1 ∧ v1.cell? ⟨g, o + i * 5, none⟩ = some (.string x.name) ∧ v1.cell? ⟨g, o + i * 5 + 1, none⟩ = some (.string x.text) ∧ v1.cell? ⟨g, o + i * 5 + 2, none⟩ = some (.int .i64 x.level) ∧ v1.cell? ⟨g, o + i * 5 + 3, none⟩ = some (.slice A1 x.refs.length c1) ∧ v1.cell? ⟨g, o + i * 5 + 4, none⟩ = some (.slice A2 x.envs.length c2) ∧ v1.cell? ⟨g', o' + i * 5, none⟩ = some (.string x.name) ∧ v1.cell? ⟨g', o' + i * 5 + 1, none⟩ = some (.string x.text) ∧ v1.cell? ⟨g', o' + i * 5 + 2, none⟩ = some (.int .i64 x.level) ∧ v1.cell? ⟨g', o' + i * 5 + 3, none⟩ = some (.slice B1 x.refs.length d1) ∧ v1.cell? ⟨g', o' + i * 5 + 4, none⟩ = some (.slice B2 x.envs.length d2)) → Below v1.heap.size v1 v2 → (Below w.heap.size w v2 ∧ v2.cell? ⟨g, o + i * 5, none⟩ = some (.string x.name) ∧ v2.cell? ⟨g, o + i * 5 + 1, none⟩ = some (.string x.text) ∧ v2.cell? ⟨g, o + i * 5 + 2, none⟩ = some (.int .i64 x.level) ∧ v2.cell? ⟨g, o + i * 5 + 3, none⟩ = some (.slice A1 x.refs.length c1) ∧ v2.cell? ⟨g, o + i * 5 + 4, none⟩ = some (.slice A2 x.envs.length c2) ∧ v2.cell? ⟨g', o' + i * 5, none⟩ = some (.string x.name) ∧ v2.cell? ⟨g', o' + i * 5 + 1, none⟩ = some (.string x.text) ∧ v2.cell? ⟨g', o' + i * 5 + 2, none⟩ = some (.int .i64 x.level) ∧ v2.cell? ⟨g', o' + i * 5 + 3, none⟩ = some (.slice B1 x.refs.length d1) ∧ v2.cell? ⟨g', o' + i * 5 + 4, none⟩ = some (.slice B2 x.envs.length d2)) := fun v1 v2 h hb => ⟨h.1.trans (hb.mono h.1.size), (hb.cell (p := ⟨g, _, none⟩) (Nat.lt_of_lt_of_le hg h.1.size)).trans h.2.1, (hb.cell (p := ⟨g, _, none⟩) (Nat.lt_of_lt_of_le hg h.1.size)).trans h.2.2.1, (hb.cell (p := ⟨g, _, none⟩) (Nat.lt_of_lt_of_le hg h.1.size)).trans h.2.2.2.1, (hb.cell (p := ⟨g, _, none⟩) (Nat.lt_of_lt_of_le hg h.1.size)).trans h.2.2.2.2.1, (hb.cell (p := ⟨g, _, none⟩) (Nat.lt_of_lt_of_le hg h.1.size)).trans h.2.2.2.2.2.1, (hb.cell (p := ⟨g', _, none⟩) (Nat.lt_of_lt_of_le hg' h.1.size)).trans h.2.2.2.2.2.2.1, (hb.cell (p := ⟨g', _, none⟩) (Nat.lt_of_lt_of_le hg' h.1.size)).trans h.2.2.2.2.2.2.2.1, (hb.cell (p := ⟨g', _, none⟩) (Nat.lt_of_lt_of_le hg' h.1.size)).trans h.2.2.2.2.2.2.2.2.1, (hb.cell (p := ⟨g', _, none⟩) (Nat.lt_of_lt_of_le hg' h.1.size)).trans h.2.2.2.2.2.2.2.2.2.1, (hb.cell (p := ⟨g', _, none⟩) (Nat.lt_of_lt_of_le hg' h.1.size)).trans h.2.2.2.2.2.2.2.2.2.2⟩
      have hS1 : (Below w.heap.size w wr.drew ∧ wr.drew.cell? ⟨g, o + i * 5, none⟩ = some (.string x.name) ∧ wr.drew.cell? ⟨g, o + i * 5 + 1, none⟩ = some (.string x.text) ∧ wr.drew.cell? ⟨g, o + i * 5 + 2, none⟩ = some (.int .i64 x.level) ∧ wr.drew.cell? ⟨g, o + i * 5 + 3, none⟩ = some (.slice A1 x.refs.length c1) ∧ wr.drew.cell? ⟨g, o + i * 5 + 4, none⟩ = some (.slice A2 x.envs.length c2) ∧ wr.drew.cell? ⟨g', o' + i * 5, none⟩ = some (.string x.name) ∧ wr.drew.cell? ⟨g', o' + i * 5 + 1, none⟩ = some (.string x.text) ∧ wr.drew.cell? ⟨g', o' + i * 5 + 2, none⟩ = some (.int .i64 x.level) ∧ wr.drew.cell? ⟨g', o' + i * 5 + 3, none⟩ = some (.slice B1 x.refs.length d1) ∧ wr.drew.cell? ⟨g', o' + i * 5 + 4, none⟩ = some (.slice B2 x.envs.length d2)) := keepS _ _ hS0 ((Below.refl _ _).drew)
      replace keepS := Lib.hid keepS
      clear hS0
      have CE := fun v (hv : Below w.heap.size w v) => refEqual_any x A1 c1 A2 c2 B1 d1 B2 d2 v (hS.refs.map (fun _ hp => hv.cell hp) (fun b hp => Nat.lt_of_lt_of_le hp hv.size)) (hS.envs.map (fun _ hp => hv.cell hp) (fun b hp => Nat.lt_of_lt_of_le hp hv.size)) (hS'.refs.map (fun _ hp => hv.cell hp) (fun b hp => Nat.lt_of_lt_of_le hp hv.size)) (hS'.envs.map (fun _ hp => hv.cell hp) (fun b hp => Nat.lt_of_lt_of_le hp hv.size)) hxw
      replace CE := Lib.hid CE
      clear hS2 hS2' hS hS'
      go_upto_region 6 with (fail)
      refine wp_region_held_drew (S := fun w' => Below w.heap.size w w' ∧ w'.cell? ⟨g, o + i * 5, none⟩ = some (.string x.name) ∧ w'.cell? ⟨g, o + i * 5 + 1, none⟩ = some (.string x.text) ∧ w'.cell? ⟨g, o + i * 5 + 2, none⟩ = some (.int .i64 x.level) ∧ w'.cell? ⟨g, o + i * 5 + 3, none⟩ = some (.slice A1 x.refs.length c1) ∧ w'.cell? ⟨g, o + i * 5 + 4, none⟩ = some (.slice A2 x.envs.length c2) ∧ w'.cell? ⟨g', o' + i * 5, none⟩ = some (.string x.name) ∧ w'.cell? ⟨g', o' + i * 5 + 1, none⟩ = some (.string x.text) ∧ w'.cell? ⟨g', o' + i * 5 + 2, none⟩ = some (.int .i64 x.level) ∧ w'.cell? ⟨g', o' + i * 5 + 3, none⟩ = some (.slice B1 x.refs.length d1) ∧ w'.cell? ⟨g', o' + i * 5 + 4, none⟩ = some (.slice B2 x.envs.length d2)) (by kernel_rfl) ?_ (fun hHeld => ?_)
      · (try dsimp only)
        exact hS1
      refine tkY 0 (v := ?v1) rfl (.inl ⟨by rfl, ?hy1⟩) ?hr1
      case hy1 => (intro w hSw; (try dsimp only at hSw); go_simp; try with_reducible rfl)
      simp only [Act.put, List.getElem_toArray, List.getElem_cons_zero, List.setIfInBounds_toArray, List.set_cons_zero, List.set_cons_succ]
      refine tkY 1 (v := ?v2) rfl (.inl ⟨by rfl, ?hy2⟩) ?hr2
      case hy2 => (intro w hSw; (try dsimp only at hSw); go_simp; try with_reducible rfl)
      simp only [Act.put, List.getElem_toArray, List.getElem_cons_zero, List.getElem_cons_succ, List.setIfInBounds_toArray, List.set_cons_zero, List.set_cons_succ]
      refine tkY 2 (v := ?v3) rfl (.inl ⟨by rfl, ?hy3⟩) ?hr3
      case hy3 => (intro w hSw; (try dsimp only at hSw); go_simp; try with_reducible rfl)
      simp only [Act.put, List.getElem_toArray, List.getElem_cons_zero, List.getElem_cons_succ, List.setIfInBounds_toArray, List.set_cons_zero, List.set_cons_succ]
      refine tkY 3 (v := ?v4) rfl (.inl ⟨by rfl, ?hy4⟩) ?hr4
      case hy4 => (intro w hSw; (try dsimp only at hSw); go_simp; try with_reducible rfl)
      simp only [Act.put, List.getElem_toArray, List.getElem_cons_zero, List.getElem_cons_succ, List.setIfInBounds_toArray, List.set_cons_zero, List.set_cons_succ]
      refine tkY 4 (v := ?v5) rfl (.inl ⟨by rfl, ?hy5⟩) ?hr5
      case hy5 => (intro w hSw; (try dsimp only at hSw); go_simp; try with_reducible rfl)
      simp only [Act.put, List.getElem_toArray, List.getElem_cons_zero, List.getElem_cons_succ, List.setIfInBounds_toArray, List.set_cons_zero, List.set_cons_succ]
      refine tkY 5 (v := ?v6) rfl (.inl ⟨by rfl, ?hy6⟩) ?hr6
      case hy6 => (intro w hSw; (try dsimp only at hSw); go_simp; try with_reducible rfl)
      simp only [Act.put, List.getElem_toArray, List.getElem_cons_zero, List.getElem_cons_succ, List.setIfInBounds_toArray, List.set_cons_zero, List.set_cons_succ]
      refine tkY 6 (v := ?v7) rfl (.inl ⟨by rfl, ?hy7⟩) ?hr7
      case hy7 => (intro w hSw; (try dsimp only at hSw); go_simp; try with_reducible rfl)
      simp only [Act.put, List.getElem_toArray, List.getElem_cons_zero, List.getElem_cons_succ, List.setIfInBounds_toArray, List.set_cons_zero, List.set_cons_succ]
      refine tkY 7 (v := ?v8) rfl (.inl ⟨by rfl, ?hy8⟩) ?hr8
      case hy8 => (intro w hSw; (try dsimp only at hSw); go_simp; try with_reducible rfl)
      simp only [Act.put, List.getElem_toArray, List.getElem_cons_zero, List.getElem_cons_succ, List.setIfInBounds_toArray, List.set_cons_zero, List.set_cons_succ]
      refine wpAnyH_ready (rs := [8]) (by kernel_rfl) (by simp) ?_
      refine AllReadyH.cons rfl (fun K hK => ?_) AllReadyH.nil
      go_simp
      go_at_call 41
      refine (CE.out _ hHeld.1).mono ?_
      rintro e r1 ⟨rfl, hbq⟩
      dsimp only
      refine hK.out _ _ ?_ (fun hHeld => ?_)
      · (try dsimp only)
        exact keepS.out _ _ hHeld hbq
      clear hK K
      try simp only [Act.put, List.getElem_toArray, List.getElem_cons_zero, List.getElem_cons_succ, List.setIfInBounds_toArray, List.set_cons_zero, List.set_cons_succ]
      refine tkY 9 (v := ?v9) rfl (.inl ⟨by rfl, ?hy9⟩) ?hr9
      case hy9 => (intro w hSw; (try dsimp only at hSw); go_simp; try with_reducible rfl)
      simp only [Act.put, List.getElem_toArray, List.getElem_cons_zero, List.getElem_cons_succ, List.setIfInBounds_toArray, List.set_cons_zero, List.set_cons_succ]
      refine wpAnyH_done (by kernel_rfl) ?_ _
      have hbW := hHeld.1
      clear hHeld hS1 keepS CE
      repeat' ((fail_if_success at_builtin); (first | go_skip | go_guarded | go_step))
      go_roundw
      case rel => exact ⟨i + 1, by omega, by first | rfl | go_num, hbW⟩
      case measure => (try go_num); (try simp [intOf]); (try omega)
    · have i1 : ¬ (i : Int) < (n : Int) := by omega
      repeat' ((fail_if_success at_builtin); (first | go_skip | go_guarded | go_step))
      go_ret
      exact ⟨rfl, hb⟩
def shortL (l : List ByteArray) : Bool := (l.all fun s => decide (s.size ≤ 100)) && decide (l.length ≤ 6)
theorem shortL_out {l : List ByteArray} (h : shortL l = true) : l.length ≤ 6 ∧ ∀ s ∈ l, s.size ≤ 100 := by
  unfold shortL at h
  rw [Bool.and_eq_true, List.all_eq_true] at h
  exact ⟨of_decide_eq_true h.2, fun s hs => of_decide_eq_true (h.1 s hs)⟩
set_option maxRecDepth 100000 in
set_option maxHeartbeats 2000000 in
theorem short_any (l : List ByteArray) (A : Option Addr) (c : Nat) (w : World) (h : StrsR w (fun b => b < w.heap.size) A c l) (hl : l.length ≤ 9223372036854775807) :
    Calls Tryd.prog 26 #[.slice A l.length c] w fun e w' => e = .returned (.bool (shortL l)) ∧ w' = w := by
  obtain ⟨R, hR⟩ : ∃ R, R = shortL l := ⟨_, rfl⟩
  rw [← hR]
  unfold shortL at hR
  obtain ⟨f, hf⟩ : ∃ f : ByteArray → Bool, f = fun s => decide (s.size ≤ 100) := ⟨_, rfl⟩
  rw [← hf] at hR
  replace hR := Lib.hid hR
  replace hf := Lib.hid hf
  go_enter Tryd.func26, Tryd.ntmps26
  repeat' ((fail_if_success at_builtin); (first | go_skip | go_guarded | go_step))
  go_loopw [3] (fun u3 wr => ∃ i : Nat, i ≤ l.length ∧ u3 = .int .i64 (i : Int) ∧ wr = w ∧ l.all f = (l.drop i).all f) (fun u3 _ => l.length - (intOf u3).toNat)
  case atStart => exact ⟨0, by omega, rfl, rfl, by simp⟩
  case round =>
    obtain ⟨i, hi, rfl, rfl, hp⟩ := hrel
    have i0 : (0 : Int) ≤ (i : Int) := by omega
    by_cases hlt : i < l.length
    · have i2 : IntKind.i64.wrap ((i : Int) + 1) = (i : Int) + 1 := IntWalk.i64_in _ (by omega)
      have i1 : (i : Int) < (l.length : Int) := by omega
      obtain ⟨x, hx⟩ : ∃ x, l[i]? = some x := ⟨_, List.getElem?_eq_getElem (by omega)⟩
      obtain ⟨g, o, rfl, hg, hc⟩ := h.at_ hx
      rw [all_at hx] at hp
      clear hx
      by_cases hs : x.size ≤ 100
      · have hs' : ¬ (100 : Int) < (x.size : Int) := by omega
        have hfx : f x = true := by rw [hf.out]; exact decide_eq_true hs
        rw [hfx, Bool.true_and] at hp
        clear hfx
        replace hp := Lib.hid hp
        repeat' ((fail_if_success at_builtin); (first | go_skip | go_guarded | go_step))
        go_roundw
        case rel => exact ⟨i + 1, by omega, by first | rfl | go_num, by first | rfl | trivial, hp.out⟩
        case measure => (try go_num); (try simp [intOf]); (try omega)
      · have hs' : (100 : Int) < (x.size : Int) := by omega
        have hfx : f x = false := by rw [hf.out]; exact decide_eq_false hs
        rw [hfx, Bool.false_and] at hp
        have hr := hR.out
        rw [hp, Bool.false_and] at hr
        clear hfx hp hR
        replace hr := Lib.hid hr
        repeat' ((fail_if_success at_builtin); (first | go_skip | go_guarded | go_step))
        go_ret
        exact ⟨by rw [hr.out]; rfl, rfl⟩
    · have i1 : ¬ (i : Int) < (l.length : Int) := by omega
      rw [all_end (by omega)] at hp
      have hr := hR.out
      rw [hp, Bool.true_and] at hr
      clear hp hR
      by_cases h6 : l.length ≤ 6
      · have h6' : (l.length : Int) ≤ 6 := by omega
        rw [decide_eq_true h6] at hr
        replace hr := Lib.hid hr
        repeat' ((fail_if_success at_builtin); (first | go_skip | go_guarded | go_step))
        go_ret
        exact ⟨by rw [hr.out]; rfl, rfl⟩
      · have h6' : ¬ (l.length : Int) ≤ 6 := by omega
        rw [decide_eq_false h6] at hr
        replace hr := Lib.hid hr
        repeat' ((fail_if_success at_builtin); (first | go_skip | go_guarded | go_step))
        go_ret
        exact ⟨by rw [hr.out]; rfl, rfl⟩
end Go.Proofs.YtgloblokkejgmaaDoor
