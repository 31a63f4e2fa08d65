/- Secret: whether a secret is valid. -/
import Derived.Test.YtgloblokkejgmaaDoorSeT
import Derived.Test.YtgloblokkejgmaaDoorIdN
namespace Go.Proofs.YtgloblokkejgmaaDoor
open Go.RowKit
def vE (x : Sec) : Int := validE nameS vgE x
theorem validE_def (x : Sec) : vE x = if nameS x.nm = false then 1
  else if x.text.size < 4 ∨ 256 < x.text.size then 2
  else if textL x.text.data.toList = false then 1
  else if x.level < 0 ∨ 2 < x.level then 2
  else if 1024 < x.refs.length ∨ 1024 < x.envs.length then 3
  else if patE vgE x.refs ≠ 0 then patE vgE x.refs
  else patE vgE x.envs := rfl
set_option maxRecDepth 100000 in
set_option maxHeartbeats 2000000 in
theorem refValid_any (x : Sec) (A1 : Option Addr) (c1 : Nat) (A2 : Option Addr) (c2 : Nat) (w : World) (h1 : StrsR w (fun b => b < w.heap.size) A1 c1 x.refs) (h2 : StrsR w (fun b => b < w.heap.size) A2 c2 x.envs) (hx : SecW x) :
    Calls Tryd.prog 12 #[.agg #[.string x.name, .string x.text, .int .i64 x.level, .slice A1 x.refs.length c1, .slice A2 x.envs.length c2]] w fun e w' => e = .returned (.int .i64 (vE x)) ∧ Below w.heap.size w w' := by
  have hv := validE_def x
  generalize vE x = R at hv ⊢
  go_enter Tryd.func12, Tryd.ntmps12
  go_upto_region 1 with (fail)
  generalize hx_ : World.alloc w _ = wo1
  have hO1 : OwnB w wo1 [(w.heap.size, [.string x.name, .string x.text, .int .i64 x.level, .slice A1 x.refs.length c1, .slice A2 x.envs.length c2])] := by rw [← hx_]; exact (OwnB.refl w).new #[.string x.name, .string x.text, .int .i64 x.level, .slice A1 x.refs.length c1, .slice A2 x.envs.length c2] _ (g := w.heap.size)
  have hbn : Below w.heap.size w wo1 := by rw [← hx_]; exact (Below.refl _ _).alloc (Nat.le_refl _) _
  have zwo1 : wo1.heap.size = w.heap.size + 1 := by rw [← hx_]; simp
  clear hx_
  have c0_0 : wo1.cell? ⟨w.heap.size, 0, none⟩ = some (.string x.name) := hO1.c 0 0
  have c0_1 : wo1.cell? ⟨w.heap.size, 1, none⟩ = some (.string x.text) := hO1.c 0 1
  have c0_2 : wo1.cell? ⟨w.heap.size, 2, none⟩ = some (.int .i64 x.level) := hO1.c 0 2
  have c0_3 : wo1.cell? ⟨w.heap.size, 3, none⟩ = some (.slice A1 x.refs.length c1) := hO1.c 0 3
  have c0_4 : wo1.cell? ⟨w.heap.size, 4, none⟩ = some (.slice A2 x.envs.length c2) := hO1.c 0 4
  have cf0 := hO1.fr 0
  clear hbn
  have hbA := hO1.below
  repeat' ((fail_if_success at_builtin); (first | go_skip | go_guarded | go_step))
  refine (refName_any x.name wo1 (by have := hx.name; omega)).mono ?_
  rintro e w1 ⟨rfl, hw1⟩
  rw [hw1]
  clear hw1 w1
  dsimp only
  have hbN := hbA
  cases hnm : nameS x.nm with
  | false =>
    rw [hnm, if_pos rfl] at hv
    replace hv := Lib.hid hv
    repeat' ((fail_if_success at_builtin); (first | go_skip | go_guarded | go_step))
    go_ret
    exact ⟨by rw [hv.out]; rfl, hbN⟩
  | true =>
    rw [hnm, if_neg (by simp)] at hv
    by_cases t1 : x.text.size < 4
    · rw [if_pos (.inl t1)] at hv
      have t1' : (x.text.size : Int) < 4 := by omega
      replace hv := Lib.hid hv
      repeat' ((fail_if_success at_builtin); (first | go_skip | go_guarded | go_step))
      go_ret
      exact ⟨by rw [hv.out]; rfl, hbN⟩
    have t1' : ¬ (x.text.size : Int) < 4 := by omega
    by_cases t2 : 256 < x.text.size
    · rw [if_pos (.inr t2)] at hv
      have t2' : (256 : Int) < (x.text.size : Int) := by omega
      replace hv := Lib.hid hv
      repeat' ((fail_if_success at_builtin); (first | go_skip | go_guarded | go_step))
      go_ret
      exact ⟨by rw [hv.out]; rfl, hbN⟩
    have t2' : ¬ (256 : Int) < (x.text.size : Int) := by omega
    rw [if_neg (by rintro (h | h); exact t1 h; exact t2 h)] at hv
    have CT := text_any x.text wo1 hx.text
    generalize textL x.text.data.toList = tl at *
    replace CT := Lib.hid CT
    replace hv := Lib.hid hv
    repeat' ((fail_if_success at_builtin); (first | go_skip | go_guarded | go_step))
    refine CT.out.mono ?_
    clear CT
    rintro e wt ⟨rfl, hbt⟩
    dsimp only
    have zwt := hbt.size
    have hO2 : OwnB w wt [(w.heap.size, [.string x.name, .string x.text, .int .i64 x.level, .slice A1 x.refs.length c1, .slice A2 x.envs.length c2])] := hO1.kept hbt
    clear c0_0 c0_1 c0_2 c0_3 c0_4 cf0 hO1
    have c0_0 : wt.cell? ⟨w.heap.size, 0, none⟩ = some (.string x.name) := hO2.c 0 0
    have c0_1 : wt.cell? ⟨w.heap.size, 1, none⟩ = some (.string x.text) := hO2.c 0 1
    have c0_2 : wt.cell? ⟨w.heap.size, 2, none⟩ = some (.int .i64 x.level) := hO2.c 0 2
    have c0_3 : wt.cell? ⟨w.heap.size, 3, none⟩ = some (.slice A1 x.refs.length c1) := hO2.c 0 3
    have c0_4 : wt.cell? ⟨w.heap.size, 4, none⟩ = some (.slice A2 x.envs.length c2) := hO2.c 0 4
    have cf0 := hO2.fr 0
    have hbT := hO2.below
    cases tl with
    | false =>
      replace hv := hv.out
      rw [if_pos rfl] at hv
      replace hv := Lib.hid hv
      repeat' ((fail_if_success at_builtin); (first | go_skip | go_guarded | go_step))
      go_ret
      exact ⟨by rw [hv.out]; rfl, hbT⟩
    | true =>
      replace hv := hv.out
      rw [if_neg (by simp)] at hv
      have hbA := hO2.below
      by_cases v1 : x.level < 0
      · rw [if_pos (.inl v1)] at hv
        replace hv := Lib.hid hv
        repeat' ((fail_if_success at_builtin); (first | go_skip | go_guarded | go_step))
        go_ret
        exact ⟨by rw [hv.out]; rfl, hbA⟩
      by_cases v2 : 2 < x.level
      · rw [if_pos (.inr v2)] at hv
        replace hv := Lib.hid hv
        repeat' ((fail_if_success at_builtin); (first | go_skip | go_guarded | go_step))
        go_ret
        exact ⟨by rw [hv.out]; rfl, hbA⟩
      rw [if_neg (by rintro (h | h); exact v1 h; exact v2 h)] at hv
      by_cases v3 : 1024 < x.refs.length
      · rw [if_pos (.inl v3)] at hv
        have v3' : (1024 : Int) < (x.refs.length : Int) := by omega
        replace hv := Lib.hid hv
        repeat' ((fail_if_success at_builtin); (first | go_skip | go_guarded | go_step))
        go_ret
        exact ⟨by rw [hv.out]; rfl, hbA⟩
      have v3' : ¬ (1024 : Int) < (x.refs.length : Int) := by omega
      by_cases v4 : 1024 < x.envs.length
      · rw [if_pos (.inr v4)] at hv
        have v4' : (1024 : Int) < (x.envs.length : Int) := by omega
        replace hv := Lib.hid hv
        repeat' ((fail_if_success at_builtin); (first | go_skip | go_guarded | go_step))
        go_ret
        exact ⟨by rw [hv.out]; rfl, hbA⟩
      rw [if_neg (by rintro (h | h); exact v3 h; exact v4 h)] at hv
      have v4' : ¬ (1024 : Int) < (x.envs.length : Int) := by omega
      have C1 := refPatterns_any x.refs A1 c1 wt (h1.map (fun _ hp => hbA.cell hp) (fun b hb => Nat.lt_of_lt_of_le hb hbA.size)) hx.refs (fun s hs => by have := hx.refe s hs; omega)
      generalize patE vgE x.refs = q1 at *
      replace C1 := Lib.hid C1
      replace hv := Lib.hid hv
      repeat' ((fail_if_success at_builtin); (first | go_skip | go_guarded | go_step))
      refine C1.out.mono ?_
      clear C1
      rintro e wp ⟨rfl, hbp⟩
      dsimp only
      have zwp := hbp.size
      have hO3 : OwnB w wp [(w.heap.size, [.string x.name, .string x.text, .int .i64 x.level, .slice A1 x.refs.length c1, .slice A2 x.envs.length c2])] := hO2.kept hbp
      clear c0_0 c0_1 c0_2 c0_3 c0_4 cf0 hO2
      have c0_0 : wp.cell? ⟨w.heap.size, 0, none⟩ = some (.string x.name) := hO3.c 0 0
      have c0_1 : wp.cell? ⟨w.heap.size, 1, none⟩ = some (.string x.text) := hO3.c 0 1
      have c0_2 : wp.cell? ⟨w.heap.size, 2, none⟩ = some (.int .i64 x.level) := hO3.c 0 2
      have c0_3 : wp.cell? ⟨w.heap.size, 3, none⟩ = some (.slice A1 x.refs.length c1) := hO3.c 0 3
      have c0_4 : wp.cell? ⟨w.heap.size, 4, none⟩ = some (.slice A2 x.envs.length c2) := hO3.c 0 4
      have cf0 := hO3.fr 0
      have hbB := hO3.below
      have C2 := refPatterns_any x.envs A2 c2 wp (h2.map (fun _ hp => hbB.cell hp) (fun b hb => Nat.lt_of_lt_of_le hb hbB.size)) hx.envs (fun s hs => by have := hx.enve s hs; omega)
      generalize patE vgE x.envs = q2 at *
      replace C2 := Lib.hid C2
      by_cases hq : q1 = 0
      · subst hq
        replace hv := hv.out
        rw [if_neg (by simp)] at hv
        replace hv := Lib.hid hv
        repeat' ((fail_if_success at_builtin); (first | go_skip | go_guarded | go_step))
        refine C2.out.mono ?_
        clear C2
        rintro e wq ⟨rfl, hbq⟩
        dsimp only
        have hbC := hbB.trans (hbq.mono hbB.size)
        repeat' ((fail_if_success at_builtin); (first | go_skip | go_guarded | go_step))
        go_ret
        exact ⟨by rw [hv.out]; rfl, hbC⟩
      · replace hv := hv.out
        rw [if_pos hq] at hv
        have hq' : (q1 == 0) = false := by simpa using hq
        replace hv := Lib.hid hv
        repeat' ((fail_if_success at_builtin); (first | go_skip | go_guarded | go_step))
        go_ret
        exact ⟨by rw [hv.out]; rfl, hbB⟩
set_option maxRecDepth 100000 in
set_option maxHeartbeats 4000000 in
theorem valid_any (x : Sec) (A1 : Option Addr) (c1 : Nat) (A2 : Option Addr) (c2 : Nat) (w : World) (h1 : StrsR w (fun b => b < w.heap.size) A1 c1 x.refs) (h2 : StrsR w (fun b => b < w.heap.size) A2 c2 x.envs) (hx : SecW x) :
    Calls Tryd.prog 11 #[.agg #[.string x.name, .string x.text, .int .i64 x.level, .slice A1 x.refs.length c1, .slice A2 x.envs.length c2]] w fun e w' => e = .returned (.int .i64 (vE x)) ∧ Below w.heap.size w w' := by
  have hv := validE_def x
  generalize vE x = R at hv ⊢
  go_enter Tryd.func11, Tryd.ntmps11
  go_upto_region 1 with (fail)
  generalize hx_ : World.alloc w _ = wo1
  have hO1 : OwnB w wo1 [(w.heap.size, [.string x.name, .string x.text, .int .i64 x.level, .slice A1 x.refs.length c1, .slice A2 x.envs.length c2])] := by rw [← hx_]; exact (OwnB.refl w).new #[.string x.name, .string x.text, .int .i64 x.level, .slice A1 x.refs.length c1, .slice A2 x.envs.length c2] _ (g := w.heap.size)
  have hbn : Below w.heap.size w wo1 := by rw [← hx_]; exact (Below.refl _ _).alloc (Nat.le_refl _) _
  have zwo1 : wo1.heap.size = w.heap.size + 1 := by rw [← hx_]; simp
  clear hx_
  have c0_0 : wo1.cell? ⟨w.heap.size, 0, none⟩ = some (.string x.name) := hO1.c 0 0
  have c0_1 : wo1.cell? ⟨w.heap.size, 1, none⟩ = some (.string x.text) := hO1.c 0 1
  have c0_2 : wo1.cell? ⟨w.heap.size, 2, none⟩ = some (.int .i64 x.level) := hO1.c 0 2
  have c0_3 : wo1.cell? ⟨w.heap.size, 3, none⟩ = some (.slice A1 x.refs.length c1) := hO1.c 0 3
  have c0_4 : wo1.cell? ⟨w.heap.size, 4, none⟩ = some (.slice A2 x.envs.length c2) := hO1.c 0 4
  have cf0 := hO1.fr 0
  clear hbn
  have hbA := hO1.below
  repeat' ((fail_if_success at_builtin); (first | go_skip | go_guarded | go_step))
  refine (idName_any x.name wo1 (by have := hx.name; omega)).mono ?_
  rintro e w1 ⟨rfl, hbn1⟩
  dsimp only
  have zw1 := hbn1.size
  have hO2 : OwnB w w1 [(w.heap.size, [.string x.name, .string x.text, .int .i64 x.level, .slice A1 x.refs.length c1, .slice A2 x.envs.length c2])] := hO1.kept hbn1
  clear c0_0 c0_1 c0_2 c0_3 c0_4 cf0 hO1
  have c0_0 : w1.cell? ⟨w.heap.size, 0, none⟩ = some (.string x.name) := hO2.c 0 0
  have c0_1 : w1.cell? ⟨w.heap.size, 1, none⟩ = some (.string x.text) := hO2.c 0 1
  have c0_2 : w1.cell? ⟨w.heap.size, 2, none⟩ = some (.int .i64 x.level) := hO2.c 0 2
  have c0_3 : w1.cell? ⟨w.heap.size, 3, none⟩ = some (.slice A1 x.refs.length c1) := hO2.c 0 3
  have c0_4 : w1.cell? ⟨w.heap.size, 4, none⟩ = some (.slice A2 x.envs.length c2) := hO2.c 0 4
  have cf0 := hO2.fr 0
  have hbN := hO2.below
  cases hnm : nameS x.nm with
  | false =>
    rw [hnm, if_pos rfl] at hv
    replace hv := Lib.hid hv
    repeat' ((fail_if_success at_builtin); (first | go_skip | go_guarded | go_step))
    go_ret
    exact ⟨by rw [hv.out]; rfl, hbN⟩
  | true =>
    rw [hnm, if_neg (by simp)] at hv
    by_cases t1 : x.text.size < 4
    · rw [if_pos (.inl t1)] at hv
      have t1' : (x.text.size : Int) < 4 := by omega
      replace hv := Lib.hid hv
      repeat' ((fail_if_success at_builtin); (first | go_skip | go_guarded | go_step))
      go_ret
      exact ⟨by rw [hv.out]; rfl, hbN⟩
    have t1' : ¬ (x.text.size : Int) < 4 := by omega
    by_cases t2 : 256 < x.text.size
    · rw [if_pos (.inr t2)] at hv
      have t2' : (256 : Int) < (x.text.size : Int) := by omega
      replace hv := Lib.hid hv
      repeat' ((fail_if_success at_builtin); (first | go_skip | go_guarded | go_step))
      go_ret
      exact ⟨by rw [hv.out]; rfl, hbN⟩
    have t2' : ¬ (256 : Int) < (x.text.size : Int) := by omega
    rw [if_neg (by rintro (h | h); exact t1 h; exact t2 h)] at hv
    repeat' ((fail_if_success at_builtin); (first | go_skip | go_guarded | go_step))
    rw [Lib.run_convert_string_bytes _ _ _ _ x.text Tryd.underlying9 Tryd.underlying69 Tryd.underlying5]
    simp only [Result.andThen, Oper.upon]
    have hseq := bytesW_seq w1 5 x.text
    have hbw := bytesW_below w1 5 x.text
    generalize Lib.bytesWorld w1 5 x.text = w2 at *
    have zw2 := hbw.size
    have hO3 : OwnB w w2 [(w.heap.size, [.string x.name, .string x.text, .int .i64 x.level, .slice A1 x.refs.length c1, .slice A2 x.envs.length c2])] := hO2.kept hbw
    clear c0_0 c0_1 c0_2 c0_3 c0_4 cf0 hO2
    have c0_0 : w2.cell? ⟨w.heap.size, 0, none⟩ = some (.string x.name) := hO3.c 0 0
    have c0_1 : w2.cell? ⟨w.heap.size, 1, none⟩ = some (.string x.text) := hO3.c 0 1
    have c0_2 : w2.cell? ⟨w.heap.size, 2, none⟩ = some (.int .i64 x.level) := hO3.c 0 2
    have c0_3 : w2.cell? ⟨w.heap.size, 3, none⟩ = some (.slice A1 x.refs.length c1) := hO3.c 0 3
    have c0_4 : w2.cell? ⟨w.heap.size, 4, none⟩ = some (.slice A2 x.envs.length c2) := hO3.c 0 4
    have cf0 := hO3.fr 0
    obtain ⟨tl, htl⟩ : ∃ tl, tl = textL x.text.data.toList := ⟨_, rfl⟩
    rw [← htl] at hv
    have hsz := list_size x.text
    replace htl := Lib.hid htl
    replace hv := Lib.hid hv
    repeat' ((fail_if_success at_builtin); (first | go_skip | go_guarded | go_step))
    go_loopw [26] (fun u26 wr => ∃ i : Nat, i ≤ x.text.size ∧ u26 = .int .i64 (i : Int) ∧ Below w2.heap.size w2 wr ∧ tl = textL (x.text.data.toList.drop i)) (fun u26 _ => x.text.size - (intOf u26).toNat)
    case atStart => exact ⟨0, by omega, rfl, Below.refl _ _, by rw [htl.out]; simp⟩
    case round =>
      clear htl
      obtain ⟨i, hi, rfl, hbr, hp⟩ := hrel
      replace hv := hv.out
      clear c0_0 c0_1 c0_2 c0_3 c0_4 cf0
      have zwr := hbr.size
      have hO4 : OwnB w wr [(w.heap.size, [.string x.name, .string x.text, .int .i64 x.level, .slice A1 x.refs.length c1, .slice A2 x.envs.length c2])] := hO3.kept hbr
      clear hO3
      have c0_0 : wr.cell? ⟨w.heap.size, 0, none⟩ = some (.string x.name) := hO4.c 0 0
      have c0_1 : wr.cell? ⟨w.heap.size, 1, none⟩ = some (.string x.text) := hO4.c 0 1
      have c0_2 : wr.cell? ⟨w.heap.size, 2, none⟩ = some (.int .i64 x.level) := hO4.c 0 2
      have c0_3 : wr.cell? ⟨w.heap.size, 3, none⟩ = some (.slice A1 x.refs.length c1) := hO4.c 0 3
      have c0_4 : wr.cell? ⟨w.heap.size, 4, none⟩ = some (.slice A2 x.envs.length c2) := hO4.c 0 4
      have cf0 := hO4.fr 0
      have hbT := hO4.below
      have i0 : (0 : Int) ≤ (i : Int) := by omega
      have i2 : IntKind.i64.wrap ((i : Int) + 1) = (i : Int) + 1 := IntWalk.i64_in _ (by have := hx.text; omega)
      by_cases hlt : i < x.text.size
      · have i1 : (i : Int) < (x.text.size : Int) := by omega
        have hci := str_at hlt
        rw [textL_at hci] at hp
        have hcell : wr.cell? ⟨w1.heap.size, i, none⟩ = some (.int .u8 (x.text[i].toNat : Int)) := by
          obtain ⟨b, o, hA0, hbb, hc⟩ := hseq.2 (by omega)
          cases hA0
          have := hc i (.int .u8 (x.text[i].toNat : Int)) (by rw [List.getElem?_map, hci]; rfl)
          rw [Nat.zero_add] at this
          exact (hbr.cell (p := ⟨w1.heap.size, i, none⟩) hbb).trans this
        clear hci
        by_cases q1 : x.text[i].toNat < 33
        · have hch := chL_f (.inl q1)
          have p1 : (x.text[i].toNat : Int) < 33 := by omega
          rw [hch, Bool.false_and] at hp
          clear hch
          rw [hp, if_pos rfl] at hv
          clear hp
          replace hv := Lib.hid hv
          repeat' ((fail_if_success at_builtin); (first | go_skip | go_guarded | go_step))
          go_ret
          exact ⟨by rw [hv.out]; rfl, hbT⟩
        by_cases q2 : 126 < x.text[i].toNat
        · have hch := chL_f (.inr (.inl q2))
          have p1 : ¬ (x.text[i].toNat : Int) < 33 := by omega
          have p2 : (126 : Int) < (x.text[i].toNat : Int) := by omega
          rw [hch, Bool.false_and] at hp
          clear hch
          rw [hp, if_pos rfl] at hv
          clear hp
          replace hv := Lib.hid hv
          repeat' ((fail_if_success at_builtin); (first | go_skip | go_guarded | go_step))
          go_ret
          exact ⟨by rw [hv.out]; rfl, hbT⟩
        by_cases q3 : x.text[i].toNat = 42
        · have hch := chL_f (.inr (.inr q3))
          have p1 : ¬ (x.text[i].toNat : Int) < 33 := by omega
          have p2 : ¬ (126 : Int) < (x.text[i].toNat : Int) := by omega
          have p3 : ((x.text[i].toNat : Int) == 42) = true := by simp; omega
          rw [hch, Bool.false_and] at hp
          clear hch
          rw [hp, if_pos rfl] at hv
          clear hp
          replace hv := Lib.hid hv
          repeat' ((fail_if_success at_builtin); (first | go_skip | go_guarded | go_step))
          go_ret
          exact ⟨by rw [hv.out]; rfl, hbT⟩
        have hch := chL_t (by omega) (by omega) q3
        have p1 : ¬ (x.text[i].toNat : Int) < 33 := by omega
        have p2 : ¬ (126 : Int) < (x.text[i].toNat : Int) := by omega
        have p3 : ((x.text[i].toNat : Int) == 42) = false := by simp; omega
        rw [hch, Bool.true_and] at hp
        clear hch
        replace hp := Lib.hid hp
        replace hv := Lib.hid hv
        repeat' ((fail_if_success at_builtin); (first | go_skip | go_guarded | go_step))
        go_roundw
        case rel => exact ⟨i + 1, by omega, by first | rfl | go_num, hbr, hp.out⟩
        case measure => (try go_num); (try simp [intOf]); (try omega)
      · have i1 : ¬ (i : Int) < (x.text.size : Int) := by omega
        rw [textL_end (by omega)] at hp
        rw [hp, if_neg (by simp)] at hv
        clear hp
        have hbA := hO4.below
        by_cases v1 : x.level < 0
        · rw [if_pos (.inl v1)] at hv
          replace hv := Lib.hid hv
          repeat' ((fail_if_success at_builtin); (first | go_skip | go_guarded | go_step))
          go_ret
          exact ⟨by rw [hv.out]; rfl, hbA⟩
        by_cases v2 : 2 < x.level
        · rw [if_pos (.inr v2)] at hv
          replace hv := Lib.hid hv
          repeat' ((fail_if_success at_builtin); (first | go_skip | go_guarded | go_step))
          go_ret
          exact ⟨by rw [hv.out]; rfl, hbA⟩
        rw [if_neg (by rintro (h | h); exact v1 h; exact v2 h)] at hv
        by_cases v3 : 1024 < x.refs.length
        · rw [if_pos (.inl v3)] at hv
          have v3' : (1024 : Int) < (x.refs.length : Int) := by omega
          replace hv := Lib.hid hv
          repeat' ((fail_if_success at_builtin); (first | go_skip | go_guarded | go_step))
          go_ret
          exact ⟨by rw [hv.out]; rfl, hbA⟩
        have v3' : ¬ (1024 : Int) < (x.refs.length : Int) := by omega
        by_cases v4 : 1024 < x.envs.length
        · rw [if_pos (.inr v4)] at hv
          have v4' : (1024 : Int) < (x.envs.length : Int) := by omega
          replace hv := Lib.hid hv
          repeat' ((fail_if_success at_builtin); (first | go_skip | go_guarded | go_step))
          go_ret
          exact ⟨by rw [hv.out]; rfl, hbA⟩
        rw [if_neg (by rintro (h | h); exact v3 h; exact v4 h)] at hv
        have v4' : ¬ (1024 : Int) < (x.envs.length : Int) := by omega
        have C1 := patterns_any x.refs A1 c1 wr (h1.map (fun _ hp => hbA.cell hp) (fun b hb => Nat.lt_of_lt_of_le hb hbA.size)) hx.refs (fun s hs => by have := hx.refe s hs; omega)
        generalize patE vgE x.refs = q1 at *
        replace C1 := Lib.hid C1
        replace hv := Lib.hid hv
        repeat' ((fail_if_success at_builtin); (first | go_skip | go_guarded | go_step))
        refine C1.out.mono ?_
        clear C1
        rintro e wp ⟨rfl, hbp⟩
        dsimp only
        have zwp := hbp.size
        have hO5 : OwnB w wp [(w.heap.size, [.string x.name, .string x.text, .int .i64 x.level, .slice A1 x.refs.length c1, .slice A2 x.envs.length c2])] := hO4.kept hbp
        clear c0_0 c0_1 c0_2 c0_3 c0_4 cf0 hO4
        have c0_0 : wp.cell? ⟨w.heap.size, 0, none⟩ = some (.string x.name) := hO5.c 0 0
        have c0_1 : wp.cell? ⟨w.heap.size, 1, none⟩ = some (.string x.text) := hO5.c 0 1
        have c0_2 : wp.cell? ⟨w.heap.size, 2, none⟩ = some (.int .i64 x.level) := hO5.c 0 2
        have c0_3 : wp.cell? ⟨w.heap.size, 3, none⟩ = some (.slice A1 x.refs.length c1) := hO5.c 0 3
        have c0_4 : wp.cell? ⟨w.heap.size, 4, none⟩ = some (.slice A2 x.envs.length c2) := hO5.c 0 4
        have cf0 := hO5.fr 0
        have hbB := hO5.below
        have C2 := patterns_any x.envs A2 c2 wp (h2.map (fun _ hp => hbB.cell hp) (fun b hb => Nat.lt_of_lt_of_le hb hbB.size)) hx.envs (fun s hs => by have := hx.enve s hs; omega)
        generalize patE vgE x.envs = q2 at *
        replace C2 := Lib.hid C2
        by_cases hq : q1 = 0
        · subst hq
          replace hv := hv.out
          rw [if_neg (by simp)] at hv
          replace hv := Lib.hid hv
          repeat' ((fail_if_success at_builtin); (first | go_skip | go_guarded | go_step))
          refine C2.out.mono ?_
          clear C2
          rintro e wq ⟨rfl, hbq⟩
          dsimp only
          have hbC := hbB.trans (hbq.mono hbB.size)
          repeat' ((fail_if_success at_builtin); (first | go_skip | go_guarded | go_step))
          go_ret
          exact ⟨by rw [hv.out]; rfl, hbC⟩
        · replace hv := hv.out
          rw [if_pos hq] at hv
          have hq' : (q1 == 0) = false := by simpa using hq
          replace hv := Lib.hid hv
          repeat' ((fail_if_success at_builtin); (first | go_skip | go_guarded | go_step))
          go_ret
          exact ⟨by rw [hv.out]; rfl, hbB⟩
end Go.Proofs.YtgloblokkejgmaaDoor
