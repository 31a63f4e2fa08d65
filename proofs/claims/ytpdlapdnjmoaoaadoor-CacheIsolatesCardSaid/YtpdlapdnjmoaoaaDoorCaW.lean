/- Cache: room: the walk. -/
import Derived.Test.YtpdlapdnjmoaoaaDoorCaQ
namespace Go.Proofs.YtpdlapdnjmoaoaaDoor
open Go.RowKit
def sizeAt (cb : Nat) (w : World) : Nat := match w.cell? ⟨cb, 1, none⟩ with
  | some (.slice _ n _) => n
  | _ => 0
set_option maxRecDepth 100000 in
set_option maxHeartbeats 8000000 in
theorem room_any (z s : Int) (l : List Ent) (B cb n c : Nat) (A : Option Addr) (w : World) (hown : w.ownsRow B 42 8 (.slice A n c) n (entsC l)) (hn : n = l.length) (hcb : cb < B) (hB : B ≤ w.heap.size)
    (c0 : w.cell? ⟨cb, 0, none⟩ = some (.int .i64 z)) (c1 : w.cell? ⟨cb, 1, none⟩ = some (.slice A n c)) (hfz : ∀ j, w.frozen? ⟨cb, j, none⟩ = false) (hok : SizeOk l) (hs0 : 0 ≤ s) (hsz : s ≤ z) (hz : z ≤ 1099511627776) :
    Calls Tryd.prog 43 #[.pointer (some ⟨cb, 0, none⟩), .int .i64 s] w fun e w' => e = .returned (.tuple #[]) ∧ ∃ A' n' c', n' = (roomS z s l).length ∧ w'.ownsRow B 42 8 (.slice A' n' c') n' (entsC (roomS z s l)) ∧ w'.cell? ⟨cb, 0, none⟩ = some (.int .i64 z) ∧ w'.cell? ⟨cb, 1, none⟩ = some (.slice A' n' c') ∧ (∀ j, w'.frozen? ⟨cb, j, none⟩ = false) ∧ KeepBut B cb w w' := by
  replace hown := Lib.hid hown
  replace hn := Lib.hid hn
  go_enter Tryd.func43, Tryd.ntmps43
  repeat' ((fail_if_success at_builtin); (first | go_skip | go_guarded | go_step))
  go_loopw [5] (fun _ wr => ∃ (l' : List Ent) (A : Option Addr) (n c : Nat), n = l'.length ∧ wr.ownsRow B 42 8 (.slice A n c) n (entsC l') ∧ wr.cell? ⟨cb, 0, none⟩ = some (.int .i64 z) ∧ wr.cell? ⟨cb, 1, none⟩ = some (.slice A n c) ∧ (∀ j, wr.frozen? ⟨cb, j, none⟩ = false) ∧ KeepBut B cb w wr ∧ SizeOk l' ∧ roomS z s l = roomS z s l') (fun _ wr => sizeAt cb wr)
  case atStart => exact ⟨l, A, n, c, hn.out, hown.out, c0, c1, hfz, KeepBut.refl _ _ _, hok, rfl⟩
  case round =>
    clear hown hn c0 c1 hfz hok A n c
    obtain ⟨l', A, n, c, hn, hown, c0, c1, hfz, hkb, hok, hst⟩ := hrel
    have hBr : B ≤ wr.heap.size := Nat.le_trans hB hkb.size
    have lcb : cb < wr.heap.size := by omega
    have hlen := hok.len
    rw [← hn] at hlen
    obtain ⟨hu0, hu1⟩ := used_bound hok
    have hseq := Seq.of_own hown
    have CU := fun (w' : World) (h : Below wr.heap.size wr w') => used_any z l' A n c w' hn ((hseq.below h).more h.size) (by omega) (fun x hx => by have := hok.size x hx; unfold I64; omega)
    have hfull : fullS z s l' = (decide (1024 ≤ n) || decide (z < usedS l' + s)) := by rw [hn]; rfl
    generalize hus : usedS l' = us at *
    have hw1 : IntKind.i64.wrap (us + s) = us + s := IntWalk.i64_in _ (by omega)
    have hmeas : sizeAt cb wr = n := by unfold sizeAt; rw [c1]
    replace CU := Lib.hid CU
    replace hst := Lib.hid hst
    replace hown := Lib.hid hown
    replace hn := Lib.hid hn
    replace hmeas := Lib.hid hmeas
    clear hus hseq
    cases hf : fullS z s l' with
    | false =>
      rw [hf] at hfull
      have hst := Lib.hid (hst.out.trans (room_stop hf))
      have h1 : ¬ 1024 ≤ n := by intro h; rw [decide_eq_true h] at hfull; simp at hfull
      have h1' : ¬ ((1024 : Int) ≤ (n : Int)) := by omega
      have h2 : ¬ (z < us + s) := by intro h; rw [decide_eq_true h] at hfull; simp at hfull
      clear hfull
      have hS1 : Below wr.heap.size wr wr.drew ∧ wr.drew.cell? ⟨cb, 0, none⟩ = some (.int .i64 z) ∧ wr.drew.cell? ⟨cb, 1, none⟩ = some (.slice A n c) := ⟨(Below.refl _ _).drew, c0, c1⟩
      have keepS : ∀ w' w'', (Below wr.heap.size wr w' ∧ w'.cell? ⟨cb, 0, none⟩ = some (.int .i64 z) ∧ w'.cell? ⟨cb, 1, none⟩ = some (.slice A n c)) → Below w'.heap.size w' w'' → (Below wr.heap.size wr w'' ∧ w''.cell? ⟨cb, 0, none⟩ = some (.int .i64 z) ∧ w''.cell? ⟨cb, 1, none⟩ = some (.slice A n c)) := fun w' w'' h hc => ⟨h.1.trans (hc.mono h.1.size), (hc.cell (p := ⟨cb, 0, none⟩) (Nat.lt_of_lt_of_le lcb h.1.size)).trans h.2.1, (hc.cell (p := ⟨cb, 1, none⟩) (Nat.lt_of_lt_of_le lcb h.1.size)).trans h.2.2⟩
      replace keepS := Lib.hid keepS
      repeat' ((fail_if_success at_builtin); (first | go_skip | go_guarded | go_step))
      refine wp_region_held_drew (S := fun w' => Below wr.heap.size wr w' ∧ w'.cell? ⟨cb, 0, none⟩ = some (.int .i64 z) ∧ w'.cell? ⟨cb, 1, none⟩ = some (.slice A n c)) (by kernel_rfl) ?_ (fun hHeld => ?_)
      · (try dsimp only)
        exact hS1
      refine wpAnyH_take (i := 0) (v := ?v318) rfl (by kernel_rfl) (by kernel_rfl) (by kernel_rfl) (fun _ _ _ h => h) (Or.inl ⟨by rfl, ?hy318⟩) (by assumption) ?rest318
      case hy318 => (intro w hSw; (try dsimp only at hSw); go_simp; try with_reducible rfl)
      simp only [Act.put, List.getElem_toArray, List.getElem_cons_zero, List.setIfInBounds_toArray, List.set_cons_zero, List.set_cons_succ]
      refine wpAnyH_take (i := 1) (v := ?v319) rfl (by kernel_rfl) (by kernel_rfl) (by kernel_rfl) (fun _ _ _ h => h) (Or.inl ⟨by rfl, ?hy319⟩) (by assumption) ?rest319
      case hy319 => (intro w hSw; (try dsimp only at hSw); go_simp; try with_reducible rfl)
      simp only [Act.put, List.getElem_toArray, List.getElem_cons_zero, List.getElem_cons_succ, List.setIfInBounds_toArray, List.set_cons_zero, List.set_cons_succ]
      refine wpAnyH_take (i := 2) (v := ?v320) rfl (by kernel_rfl) (by kernel_rfl) (by kernel_rfl) (fun _ _ _ h => h) (Or.inl ⟨by rfl, ?hy320⟩) (by assumption) ?rest320
      case hy320 => (intro w hSw; (try dsimp only at hSw); go_simp; try with_reducible rfl)
      simp only [Act.put, List.getElem_toArray, List.getElem_cons_zero, List.getElem_cons_succ, List.setIfInBounds_toArray, List.set_cons_zero, List.set_cons_succ]
      refine wpAnyH_take (i := 3) (v := ?v321) rfl (by kernel_rfl) (by kernel_rfl) (by kernel_rfl) (fun _ _ _ h => h) (Or.inl ⟨by rfl, ?hy321⟩) (by assumption) ?rest321
      case hy321 => (intro w hSw; (try dsimp only at hSw); go_simp; try with_reducible rfl)
      simp only [Act.put, List.getElem_toArray, List.getElem_cons_zero, List.getElem_cons_succ, List.setIfInBounds_toArray, List.set_cons_zero, List.set_cons_succ]
      refine wpAnyH_take (i := 4) (v := ?v322) rfl (by kernel_rfl) (by kernel_rfl) (by kernel_rfl) (fun _ _ _ h => h) (Or.inl ⟨by rfl, ?hy322⟩) (by assumption) ?rest322
      case hy322 => (intro w hSw; (try dsimp only at hSw); go_simp; try with_reducible rfl)
      simp only [Act.put, List.getElem_toArray, List.getElem_cons_zero, List.getElem_cons_succ, List.setIfInBounds_toArray, List.set_cons_zero, List.set_cons_succ]
      refine wpAnyH_take (i := 5) (v := ?v323) rfl (by kernel_rfl) (by kernel_rfl) (by kernel_rfl) (fun _ _ _ h => h) (Or.inl ⟨by rfl, ?hy323⟩) (by assumption) ?rest323
      case hy323 => (intro w hSw; (try dsimp only at hSw); go_simp; try with_reducible rfl)
      simp only [Act.put, List.getElem_toArray, List.getElem_cons_zero, List.getElem_cons_succ, List.setIfInBounds_toArray, List.set_cons_zero, List.set_cons_succ]
      refine wpAnyH_take (i := 6) (v := ?v324) rfl (by kernel_rfl) (by kernel_rfl) (by kernel_rfl) (fun _ _ _ h => h) (Or.inl ⟨by rfl, ?hy324⟩) (by assumption) ?rest324
      case hy324 => (intro w hSw; (try dsimp only at hSw); go_simp; try with_reducible rfl)
      simp only [Act.put, List.getElem_toArray, List.getElem_cons_zero, List.getElem_cons_succ, List.setIfInBounds_toArray, List.set_cons_zero, List.set_cons_succ]
      refine wpAnyH_take (i := 7) (v := ?v325) rfl (by kernel_rfl) (by kernel_rfl) (by kernel_rfl) (fun _ _ _ h => h) (Or.inl ⟨by rfl, ?hy325⟩) (by assumption) ?rest325
      case hy325 => (intro w hSw; (try dsimp only at hSw); go_simp; try with_reducible rfl)
      simp only [Act.put, List.getElem_toArray, List.getElem_cons_zero, List.getElem_cons_succ, List.setIfInBounds_toArray, List.set_cons_zero, List.set_cons_succ]
      refine wpAnyH_take (i := 8) (v := ?v326) rfl (by kernel_rfl) (by kernel_rfl) (by kernel_rfl) (fun _ _ _ h => h) (Or.inl ⟨by rfl, ?hy326⟩) (by assumption) ?rest326
      case hy326 => (intro w hSw; (try dsimp only at hSw); go_simp; try with_reducible rfl)
      simp only [Act.put, List.getElem_toArray, List.getElem_cons_zero, List.getElem_cons_succ, List.setIfInBounds_toArray, List.set_cons_zero, List.set_cons_succ]
      refine wpAnyH_take (i := 9) (v := ?v327) rfl (by kernel_rfl) (by kernel_rfl) (by kernel_rfl) (fun _ _ _ h => h) (Or.inl ⟨by rfl, ?hy327⟩) (by assumption) ?rest327
      case hy327 => (intro w hSw; (try dsimp only at hSw); go_simp; try with_reducible rfl)
      simp only [Act.put, List.getElem_toArray, List.getElem_cons_zero, List.getElem_cons_succ, List.setIfInBounds_toArray, List.set_cons_zero, List.set_cons_succ]
      refine wpAnyH_take (i := 11) (v := ?v328) rfl (by kernel_rfl) (by kernel_rfl) (by kernel_rfl) (fun _ _ _ h => h) (Or.inl ⟨by rfl, ?hy328⟩) (by assumption) ?rest328
      case hy328 => (intro w hSw; (try dsimp only at hSw); go_simp; try with_reducible rfl)
      simp only [Act.put, List.getElem_toArray, List.getElem_cons_zero, List.getElem_cons_succ, List.setIfInBounds_toArray, List.set_cons_zero, List.set_cons_succ]
      refine wpAnyH_take (i := 13) (v := ?v329) rfl (by kernel_rfl) (by kernel_rfl) (by kernel_rfl) (fun _ _ _ h => h) (Or.inl ⟨by rfl, ?hy329⟩) (by assumption) ?rest329
      case hy329 => (intro w hSw; (try dsimp only at hSw); go_simp; try with_reducible rfl)
      simp only [Act.put, List.getElem_toArray, List.getElem_cons_zero, List.getElem_cons_succ, List.setIfInBounds_toArray, List.set_cons_zero, List.set_cons_succ]
      refine wpAnyH_take (i := 14) (v := ?v330) rfl (by kernel_rfl) (by kernel_rfl) (by kernel_rfl) (fun _ _ _ h => h) (Or.inl ⟨by rfl, ?hy330⟩) (by assumption) ?rest330
      case hy330 => (intro w hSw; (try dsimp only at hSw); go_simp; try with_reducible rfl)
      simp only [Act.put, List.getElem_toArray, List.getElem_cons_zero, List.getElem_cons_succ, List.setIfInBounds_toArray, List.set_cons_zero, List.set_cons_succ]
      refine wpAnyH_take (i := 15) (v := ?v331) rfl (by kernel_rfl) (by kernel_rfl) (by kernel_rfl) (fun _ _ _ h => h) (Or.inl ⟨by rfl, ?hy331⟩) (by assumption) ?rest331
      case hy331 => (intro w hSw; (try dsimp only at hSw); go_simp; try with_reducible rfl)
      simp only [Act.put, List.getElem_toArray, List.getElem_cons_zero, List.getElem_cons_succ, List.setIfInBounds_toArray, List.set_cons_zero, List.set_cons_succ]
      refine wpAnyH_take (i := 16) (v := ?v332) rfl (by kernel_rfl) (by kernel_rfl) (by kernel_rfl) (fun _ _ _ h => h) (Or.inl ⟨by rfl, ?hy332⟩) (by assumption) ?rest332
      case hy332 => (intro w hSw; (try dsimp only at hSw); go_simp; try with_reducible rfl)
      simp only [Act.put, List.getElem_toArray, List.getElem_cons_zero, List.getElem_cons_succ, List.setIfInBounds_toArray, List.set_cons_zero, List.set_cons_succ]
      refine wpAnyH_ready (rs := [10]) (by kernel_rfl) (by simp) ?_
      refine AllReadyH.cons rfl (fun K hK => ?_) AllReadyH.nil
      go_simp
      go_at_call 13
      refine (CU.out _ hHeld.1).mono ?_
      rintro e w7 ⟨rfl, hbq⟩
      dsimp only
      refine hK.out _ _ ?_ (fun hHeld => ?_)
      · (try dsimp only)
        exact keepS.out _ _ hHeld hbq
      clear hK K
      try simp only [Act.put, List.getElem_toArray, List.getElem_cons_zero, List.getElem_cons_succ, List.setIfInBounds_toArray, List.set_cons_zero, List.set_cons_succ]
      refine wpAnyH_take (i := 12) (v := ?v333) rfl (by kernel_rfl) (by kernel_rfl) (by kernel_rfl) (fun _ _ _ h => h) (Or.inl ⟨by rfl, ?hy333⟩) (by assumption) ?rest333
      case hy333 => (intro w hSw; (try dsimp only at hSw); go_simp; try with_reducible rfl)
      simp only [Act.put, List.getElem_toArray, List.getElem_cons_zero, List.getElem_cons_succ, List.setIfInBounds_toArray, List.set_cons_zero, List.set_cons_succ]
      refine wpAnyH_take (i := 17) (v := ?v334) rfl (by kernel_rfl) (by kernel_rfl) (by kernel_rfl) (fun _ _ _ h => h) (Or.inl ⟨by rfl, ?hy334⟩) (by assumption) ?rest334
      case hy334 => (intro w hSw; (try dsimp only at hSw); go_simp; try with_reducible rfl)
      simp only [Act.put, List.getElem_toArray, List.getElem_cons_zero, List.getElem_cons_succ, List.setIfInBounds_toArray, List.set_cons_zero, List.set_cons_succ]
      refine wpAnyH_take (i := 18) (v := ?v335) rfl (by kernel_rfl) (by kernel_rfl) (by kernel_rfl) (fun _ _ _ h => h) (Or.inl ⟨by rfl, ?hy335⟩) (by assumption) ?rest335
      case hy335 => (intro w hSw; (try dsimp only at hSw); go_simp; try with_reducible rfl)
      simp only [Act.put, List.getElem_toArray, List.getElem_cons_zero, List.getElem_cons_succ, List.setIfInBounds_toArray, List.set_cons_zero, List.set_cons_succ]
      refine wpAnyH_done (by kernel_rfl) ?_ _
      obtain ⟨hb9, d0, d1⟩ := hHeld
      have hk9 : KeepBut B cb w _ := hkb.trans (KeepBut.below hb9 hBr)
      have ho9 := hown.out.kept (row := none) (Below.grownB hb9 none) (by cases hv : (Value.slice A n c).ownBlock <;> simp)
      have hf9 := fun j => (hb9.frozen (p := ⟨cb, j, none⟩) lcb).trans (hfz j)
      repeat' ((fail_if_success at_builtin); (first | go_skip | go_guarded | go_step))
      go_end0
      exact ⟨rfl, A, n, c, hst.out ▸ hn.out, hst.out ▸ ho9, d0, d1, hf9, hk9⟩
    | true =>
      rw [hf] at hfull
      have hst := Lib.hid (hst.out.trans (room_step hsz hf))
      have hn0 : 0 < n := by
        have := hn.out
        cases l' with
        | nil => rw [full_nil hsz] at hf; cases hf
        | cons => simp at this; omega
      have hol := oldS_lt (l := l') (by have := hn.out; omega)
      obtain ⟨W0, hW0, hO⟩ := own_any hown.out hBr
      obtain ⟨g, rfl, hg0, hg1, hgc, hgf⟩ := hO.head hn0
      rw [hW0] at hg0
      clear hgf
      by_cases h1 : 1024 ≤ n
      · have h1' : (1024 : Int) ≤ (n : Int) := by omega
        clear hfull
        have hS1 : Below wr.heap.size wr wr.drew ∧ wr.drew.cell? ⟨cb, 0, none⟩ = some (.int .i64 z) ∧ wr.drew.cell? ⟨cb, 1, none⟩ = some (.slice (some ⟨g, 0, none⟩) n c) := ⟨(Below.refl _ _).drew, c0, c1⟩
        have keepS : ∀ w' w'', (Below wr.heap.size wr w' ∧ w'.cell? ⟨cb, 0, none⟩ = some (.int .i64 z) ∧ w'.cell? ⟨cb, 1, none⟩ = some (.slice (some ⟨g, 0, none⟩) n c)) → Below w'.heap.size w' w'' → (Below wr.heap.size wr w'' ∧ w''.cell? ⟨cb, 0, none⟩ = some (.int .i64 z) ∧ w''.cell? ⟨cb, 1, none⟩ = some (.slice (some ⟨g, 0, none⟩) n c)) := fun w' w'' h hc => ⟨h.1.trans (hc.mono h.1.size), (hc.cell (p := ⟨cb, 0, none⟩) (Nat.lt_of_lt_of_le lcb h.1.size)).trans h.2.1, (hc.cell (p := ⟨cb, 1, none⟩) (Nat.lt_of_lt_of_le lcb h.1.size)).trans h.2.2⟩
        replace keepS := Lib.hid keepS
        repeat' ((fail_if_success at_builtin); (first | go_skip | go_guarded | go_step))
        refine wp_region_held_drew (S := fun w' => Below wr.heap.size wr w' ∧ w'.cell? ⟨cb, 0, none⟩ = some (.int .i64 z) ∧ w'.cell? ⟨cb, 1, none⟩ = some (.slice (some ⟨g, 0, none⟩) n c)) (by kernel_rfl) ?_ (fun hHeld => ?_)
        · (try dsimp only)
          exact hS1
        refine wpAnyH_take (i := 0) (v := ?v336) rfl (by kernel_rfl) (by kernel_rfl) (by kernel_rfl) (fun _ _ _ h => h) (Or.inl ⟨by rfl, ?hy336⟩) (by assumption) ?rest336
        case hy336 => (intro w hSw; (try dsimp only at hSw); go_simp; try with_reducible rfl)
        simp only [Act.put, List.getElem_toArray, List.getElem_cons_zero, List.setIfInBounds_toArray, List.set_cons_zero, List.set_cons_succ]
        refine wpAnyH_take (i := 1) (v := ?v337) rfl (by kernel_rfl) (by kernel_rfl) (by kernel_rfl) (fun _ _ _ h => h) (Or.inl ⟨by rfl, ?hy337⟩) (by assumption) ?rest337
        case hy337 => (intro w hSw; (try dsimp only at hSw); go_simp; try with_reducible rfl)
        simp only [Act.put, List.getElem_toArray, List.getElem_cons_zero, List.getElem_cons_succ, List.setIfInBounds_toArray, List.set_cons_zero, List.set_cons_succ]
        refine wpAnyH_take (i := 2) (v := ?v338) rfl (by kernel_rfl) (by kernel_rfl) (by kernel_rfl) (fun _ _ _ h => h) (Or.inl ⟨by rfl, ?hy338⟩) (by assumption) ?rest338
        case hy338 => (intro w hSw; (try dsimp only at hSw); go_simp; try with_reducible rfl)
        simp only [Act.put, List.getElem_toArray, List.getElem_cons_zero, List.getElem_cons_succ, List.setIfInBounds_toArray, List.set_cons_zero, List.set_cons_succ]
        refine wpAnyH_take (i := 3) (v := ?v339) rfl (by kernel_rfl) (by kernel_rfl) (by kernel_rfl) (fun _ _ _ h => h) (Or.inl ⟨by rfl, ?hy339⟩) (by assumption) ?rest339
        case hy339 => (intro w hSw; (try dsimp only at hSw); go_simp; try with_reducible rfl)
        simp only [Act.put, List.getElem_toArray, List.getElem_cons_zero, List.getElem_cons_succ, List.setIfInBounds_toArray, List.set_cons_zero, List.set_cons_succ]
        refine wpAnyH_take (i := 4) (v := ?v340) rfl (by kernel_rfl) (by kernel_rfl) (by kernel_rfl) (fun _ _ _ h => h) (Or.inl ⟨by rfl, ?hy340⟩) (by assumption) ?rest340
        case hy340 => (intro w hSw; (try dsimp only at hSw); go_simp; try with_reducible rfl)
        simp only [Act.put, List.getElem_toArray, List.getElem_cons_zero, List.getElem_cons_succ, List.setIfInBounds_toArray, List.set_cons_zero, List.set_cons_succ]
        refine wpAnyH_take (i := 5) (v := ?v341) rfl (by kernel_rfl) (by kernel_rfl) (by kernel_rfl) (fun _ _ _ h => h) (Or.inl ⟨by rfl, ?hy341⟩) (by assumption) ?rest341
        case hy341 => (intro w hSw; (try dsimp only at hSw); go_simp; try with_reducible rfl)
        simp only [Act.put, List.getElem_toArray, List.getElem_cons_zero, List.getElem_cons_succ, List.setIfInBounds_toArray, List.set_cons_zero, List.set_cons_succ]
        refine wpAnyH_take (i := 6) (v := ?v342) rfl (by kernel_rfl) (by kernel_rfl) (by kernel_rfl) (fun _ _ _ h => h) (Or.inl ⟨by rfl, ?hy342⟩) (by assumption) ?rest342
        case hy342 => (intro w hSw; (try dsimp only at hSw); go_simp; try with_reducible rfl)
        simp only [Act.put, List.getElem_toArray, List.getElem_cons_zero, List.getElem_cons_succ, List.setIfInBounds_toArray, List.set_cons_zero, List.set_cons_succ]
        refine wpAnyH_take (i := 7) (v := undef) rfl (by kernel_rfl) (by kernel_rfl) (by kernel_rfl) (fun _ _ _ h => h) (Or.inr ⟨by rfl, rfl⟩) (by assumption) ?_
        simp only [Act.put, List.getElem_toArray, List.getElem_cons_zero, List.getElem_cons_succ, List.setIfInBounds_toArray, List.set_cons_zero, List.set_cons_succ]
        refine wpAnyH_take (i := 8) (v := undef) rfl (by kernel_rfl) (by kernel_rfl) (by kernel_rfl) (fun _ _ _ h => h) (Or.inr ⟨by rfl, rfl⟩) (by assumption) ?_
        simp only [Act.put, List.getElem_toArray, List.getElem_cons_zero, List.getElem_cons_succ, List.setIfInBounds_toArray, List.set_cons_zero, List.set_cons_succ]
        refine wpAnyH_take (i := 9) (v := undef) rfl (by kernel_rfl) (by kernel_rfl) (by kernel_rfl) (fun _ _ _ h => h) (Or.inr ⟨by rfl, rfl⟩) (by assumption) ?_
        simp only [Act.put, List.getElem_toArray, List.getElem_cons_zero, List.getElem_cons_succ, List.setIfInBounds_toArray, List.set_cons_zero, List.set_cons_succ]
        refine wpAnyH_take (i := 10) (v := undef) rfl (by kernel_rfl) (by kernel_rfl) (by kernel_rfl) (fun _ _ _ h => h) (Or.inr ⟨by rfl, rfl⟩) (by assumption) ?_
        simp only [Act.put, List.getElem_toArray, List.getElem_cons_zero, List.getElem_cons_succ, List.setIfInBounds_toArray, List.set_cons_zero, List.set_cons_succ]
        refine wpAnyH_take (i := 11) (v := undef) rfl (by kernel_rfl) (by kernel_rfl) (by kernel_rfl) (fun _ _ _ h => h) (Or.inr ⟨by rfl, rfl⟩) (by assumption) ?_
        simp only [Act.put, List.getElem_toArray, List.getElem_cons_zero, List.getElem_cons_succ, List.setIfInBounds_toArray, List.set_cons_zero, List.set_cons_succ]
        refine wpAnyH_take (i := 12) (v := undef) rfl (by kernel_rfl) (by kernel_rfl) (by kernel_rfl) (fun _ _ _ h => h) (Or.inr ⟨by rfl, rfl⟩) (by assumption) ?_
        simp only [Act.put, List.getElem_toArray, List.getElem_cons_zero, List.getElem_cons_succ, List.setIfInBounds_toArray, List.set_cons_zero, List.set_cons_succ]
        refine wpAnyH_take (i := 13) (v := undef) rfl (by kernel_rfl) (by kernel_rfl) (by kernel_rfl) (fun _ _ _ h => h) (Or.inr ⟨by rfl, rfl⟩) (by assumption) ?_
        simp only [Act.put, List.getElem_toArray, List.getElem_cons_zero, List.getElem_cons_succ, List.setIfInBounds_toArray, List.set_cons_zero, List.set_cons_succ]
        refine wpAnyH_take (i := 14) (v := undef) rfl (by kernel_rfl) (by kernel_rfl) (by kernel_rfl) (fun _ _ _ h => h) (Or.inr ⟨by rfl, rfl⟩) (by assumption) ?_
        simp only [Act.put, List.getElem_toArray, List.getElem_cons_zero, List.getElem_cons_succ, List.setIfInBounds_toArray, List.set_cons_zero, List.set_cons_succ]
        refine wpAnyH_take (i := 15) (v := undef) rfl (by kernel_rfl) (by kernel_rfl) (by kernel_rfl) (fun _ _ _ h => h) (Or.inr ⟨by rfl, rfl⟩) (by assumption) ?_
        simp only [Act.put, List.getElem_toArray, List.getElem_cons_zero, List.getElem_cons_succ, List.setIfInBounds_toArray, List.set_cons_zero, List.set_cons_succ]
        refine wpAnyH_take (i := 16) (v := undef) rfl (by kernel_rfl) (by kernel_rfl) (by kernel_rfl) (fun _ _ _ h => h) (Or.inr ⟨by rfl, rfl⟩) (by assumption) ?_
        simp only [Act.put, List.getElem_toArray, List.getElem_cons_zero, List.getElem_cons_succ, List.setIfInBounds_toArray, List.set_cons_zero, List.set_cons_succ]
        refine wpAnyH_take (i := 17) (v := undef) rfl (by kernel_rfl) (by kernel_rfl) (by kernel_rfl) (fun _ _ _ h => h) (Or.inr ⟨by rfl, rfl⟩) (by assumption) ?_
        simp only [Act.put, List.getElem_toArray, List.getElem_cons_zero, List.getElem_cons_succ, List.setIfInBounds_toArray, List.set_cons_zero, List.set_cons_succ]
        refine wpAnyH_take (i := 18) (v := ?v343) rfl (by kernel_rfl) (by kernel_rfl) (by kernel_rfl) (fun _ _ _ h => h) (Or.inl ⟨by rfl, ?hy343⟩) (by assumption) ?rest343
        case hy343 => (intro w hSw; (try dsimp only at hSw); go_simp; try with_reducible rfl)
        simp only [Act.put, List.getElem_toArray, List.getElem_cons_zero, List.getElem_cons_succ, List.setIfInBounds_toArray, List.set_cons_zero, List.set_cons_succ]
        refine wpAnyH_done (by kernel_rfl) ?_ _
        obtain ⟨hb9, d0, d1⟩ := hHeld
        generalize wr.drew = wi at hb9 d0 d1 ⊢
        repeat' ((fail_if_success at_builtin); (first | go_skip | go_guarded | go_step))
        obtain ⟨wo, hwo⟩ : ∃ wo : World, wo = wr := ⟨wr, rfl⟩
        subst hwo
        have hz9 := hb9.size
        have hx0 : l'[0]? = some (l'[0]'(by omega)) := List.getElem?_eq_getElem (by omega)
        have hst0 : oldS l' = oldF (l'[0]'(by omega)) 0 0 (l'.drop 0) := by
          cases l' with
          | nil => simp at hol
          | cons x r => simp [oldS, oldF, older_self]
        generalize l'[0]'(by omega) = x0 at hx0 hst0
        replace hx0 := Lib.hid hx0
        replace hst0 := Lib.hid hst0
        have l0' : (0 : Int) ≤ (n : Int) := by omega
        go_loopw [5, 32] (fun u5 u32 wx => ∃ (k i : Nat) (x : Ent), i ≤ n ∧ k < n ∧ u5 = .int .i64 (k : Int) ∧ u32 = .int .i64 (i : Int) ∧ l'[k]? = some x ∧ Below wi.heap.size wi wx ∧ oldS l' = oldF x k i (l'.drop i)) (fun _ u32 _ => n - (intOf u32).toNat)
        case atStart => exact ⟨0, 0, x0, by omega, hn0, rfl, rfl, hx0.out, Below.refl _ _, hst0.out⟩
        case round =>
          clear hst0 hx0
          obtain ⟨k, i, x, hi, hk, rfl, rfl, hxk, hbi, hu⟩ := hrel
          have hzi := hbi.size
          have p0 := (hbi.cell (p := ⟨cb, 0, none⟩) (by show cb < _; omega)).trans d0
          have q1 := (hbi.cell (p := ⟨cb, 1, none⟩) (by show cb < _; omega)).trans d1
          have hcell : ∀ j u, (entsC l')[j]? = some u → wr.cell? ⟨g, j, none⟩ = some u := fun j u hu => (hbi.cell (p := ⟨g, j, none⟩) (by show g < _; omega)).trans ((hb9.cell (p := ⟨g, j, none⟩) hg1).trans (hgc j u hu))
          have k0 : (0 : Int) ≤ (k : Int) := by omega
          have k1 : (k : Int) < (n : Int) := by omega
          by_cases hlt : i < n
          · have hlt2 : i < l'.length := by have := hn.out; omega
            have hy : l'[i]? = some l'[i] := List.getElem?_eq_getElem hlt2
            rw [List.drop_eq_getElem_cons hlt2, oldF] at hu
            generalize l'[i] = y at *
            have y0 := hcell (i * 8 + 0) _ (flat8 hy (j := 0) rfl)
            have y1 := hcell (i * 8 + 1) _ (flat8 hy (j := 1) rfl)
            have y2 := hcell (i * 8 + 2) _ (flat8 hy (j := 2) rfl)
            have y3 := hcell (i * 8 + 3) _ (flat8 hy (j := 3) rfl)
            have y4 := hcell (i * 8 + 4) _ (flat8 hy (j := 4) rfl)
            have y5 := hcell (i * 8 + 5) _ (flat8 hy (j := 5) rfl)
            have y6 := hcell (i * 8 + 6) _ (flat8 hy (j := 6) rfl)
            have y7 := hcell (i * 8 + 7) _ (flat8 hy (j := 7) rfl)
            have xx0 := hcell (k * 8 + 0) _ (flat8 hxk (j := 0) rfl)
            have xx1 := hcell (k * 8 + 1) _ (flat8 hxk (j := 1) rfl)
            have xx2 := hcell (k * 8 + 2) _ (flat8 hxk (j := 2) rfl)
            have xx3 := hcell (k * 8 + 3) _ (flat8 hxk (j := 3) rfl)
            have xx4 := hcell (k * 8 + 4) _ (flat8 hxk (j := 4) rfl)
            have xx5 := hcell (k * 8 + 5) _ (flat8 hxk (j := 5) rfl)
            have xx6 := hcell (k * 8 + 6) _ (flat8 hxk (j := 6) rfl)
            have xx7 := hcell (k * 8 + 7) _ (flat8 hxk (j := 7) rfl)
            simp only [Nat.add_zero] at y0 xx0
            have i0 : (0 : Int) ≤ (i : Int) := by omega
            have i1 : (i : Int) < (n : Int) := by omega
            have i2 : IntKind.i64.wrap ((i : Int) + 1) = (i : Int) + 1 := IntWalk.i64_in _ (by omega)
            have hlc : cb < wr.heap.size := by omega
            have hlg : g < wr.heap.size := by omega
            replace hu := Lib.hid hu
            replace hxk := Lib.hid hxk
            replace hy := Lib.hid hy
            clear hcell
            repeat' ((fail_if_success at_builtin); (first | go_skip | go_guarded | go_step))
            generalize hw8 : World.alloc wr _ = w8
            have hbw : Below wr.heap.size wr w8 := by rw [← hw8]; exact (Below.refl _ _).alloc (Nat.le_refl _) _
            have e0 : w8.cell? ⟨wr.heap.size, 0, none⟩ = some (.string y.sc.prj) := by rw [← hw8]; simp [go_sem]
            have e1 : w8.cell? ⟨wr.heap.size, 1, none⟩ = some (.int .i64 y.sc.trust) := by rw [← hw8]; simp [go_sem]
            have e2 : w8.cell? ⟨wr.heap.size, 2, none⟩ = some (.string y.sc.ref) := by rw [← hw8]; simp [go_sem]
            have e3 : w8.cell? ⟨wr.heap.size, 3, none⟩ = some (.string y.key) := by rw [← hw8]; simp [go_sem]
            have e4 : w8.cell? ⟨wr.heap.size, 4, none⟩ = some (.int .u64 y.dig) := by rw [← hw8]; simp [go_sem]
            have e5 : w8.cell? ⟨wr.heap.size, 5, none⟩ = some (.int .i64 y.size) := by rw [← hw8]; simp [go_sem]
            have e6 : w8.cell? ⟨wr.heap.size, 6, none⟩ = some (.int .i64 y.created) := by rw [← hw8]; simp [go_sem]
            have e7 : w8.cell? ⟨wr.heap.size, 7, none⟩ = some (.int .i64 y.used) := by rw [← hw8]; simp [go_sem]
            have hz8 : w8.heap.size = wr.heap.size + 1 := by rw [← hw8]; simp
            clear hw8 y0 y1 y2 y3 y4 y5 y6 y7
            have le8 : wr.heap.size < w8.heap.size := by omega
            have lc8 : cb < w8.heap.size := by omega
            have lg8 : g < w8.heap.size := by omega
            replace q1 := (hbw.cell (p := ⟨cb, 1, none⟩) hlc).trans q1
            have x0 := (hbw.cell (p := ⟨g, k * 8, none⟩) hlg).trans xx0
            have x1 := (hbw.cell (p := ⟨g, k * 8 + 1, none⟩) hlg).trans xx1
            have x2 := (hbw.cell (p := ⟨g, k * 8 + 2, none⟩) hlg).trans xx2
            have x3 := (hbw.cell (p := ⟨g, k * 8 + 3, none⟩) hlg).trans xx3
            have x4 := (hbw.cell (p := ⟨g, k * 8 + 4, none⟩) hlg).trans xx4
            have x5 := (hbw.cell (p := ⟨g, k * 8 + 5, none⟩) hlg).trans xx5
            have x6 := (hbw.cell (p := ⟨g, k * 8 + 6, none⟩) hlg).trans xx6
            have x7 := (hbw.cell (p := ⟨g, k * 8 + 7, none⟩) hlg).trans xx7
            clear xx0 xx1 xx2 xx3 xx4 xx5 xx6 xx7
            have hbi8 := hbi.trans (hbw.mono hbi.size)
            have hS : ∀ w', Below w8.heap.size w8 w' → Below w8.heap.size w8 w' ∧ w'.cell? ⟨cb, 1, none⟩ = some (.slice (some ⟨g, 0, none⟩) n c) ∧ w'.cell? ⟨wr.heap.size, 0, none⟩ = some (.string y.sc.prj) ∧ w'.cell? ⟨wr.heap.size, 1, none⟩ = some (.int .i64 y.sc.trust) ∧ w'.cell? ⟨wr.heap.size, 2, none⟩ = some (.string y.sc.ref) ∧ w'.cell? ⟨wr.heap.size, 3, none⟩ = some (.string y.key) ∧ w'.cell? ⟨wr.heap.size, 4, none⟩ = some (.int .u64 y.dig) ∧ w'.cell? ⟨wr.heap.size, 5, none⟩ = some (.int .i64 y.size) ∧ w'.cell? ⟨wr.heap.size, 6, none⟩ = some (.int .i64 y.created) ∧ w'.cell? ⟨wr.heap.size, 7, none⟩ = some (.int .i64 y.used) ∧ w'.cell? ⟨g, k * 8, none⟩ = some (.string x.sc.prj) ∧ w'.cell? ⟨g, k * 8 + 1, none⟩ = some (.int .i64 x.sc.trust) ∧ w'.cell? ⟨g, k * 8 + 2, none⟩ = some (.string x.sc.ref) ∧ w'.cell? ⟨g, k * 8 + 3, none⟩ = some (.string x.key) ∧ w'.cell? ⟨g, k * 8 + 4, none⟩ = some (.int .u64 x.dig) ∧ w'.cell? ⟨g, k * 8 + 5, none⟩ = some (.int .i64 x.size) ∧ w'.cell? ⟨g, k * 8 + 6, none⟩ = some (.int .i64 x.created) ∧ w'.cell? ⟨g, k * 8 + 7, none⟩ = some (.int .i64 x.used) := fun w' hb => ⟨hb, (hb.cell (p := ⟨cb, 1, none⟩) lc8).trans q1, (hb.cell (p := ⟨wr.heap.size, 0, none⟩) le8).trans e0, (hb.cell (p := ⟨wr.heap.size, 1, none⟩) le8).trans e1, (hb.cell (p := ⟨wr.heap.size, 2, none⟩) le8).trans e2, (hb.cell (p := ⟨wr.heap.size, 3, none⟩) le8).trans e3, (hb.cell (p := ⟨wr.heap.size, 4, none⟩) le8).trans e4, (hb.cell (p := ⟨wr.heap.size, 5, none⟩) le8).trans e5, (hb.cell (p := ⟨wr.heap.size, 6, none⟩) le8).trans e6, (hb.cell (p := ⟨wr.heap.size, 7, none⟩) le8).trans e7, (hb.cell (p := ⟨g, k * 8, none⟩) lg8).trans x0, (hb.cell (p := ⟨g, k * 8 + 1, none⟩) lg8).trans x1, (hb.cell (p := ⟨g, k * 8 + 2, none⟩) lg8).trans x2, (hb.cell (p := ⟨g, k * 8 + 3, none⟩) lg8).trans x3, (hb.cell (p := ⟨g, k * 8 + 4, none⟩) lg8).trans x4, (hb.cell (p := ⟨g, k * 8 + 5, none⟩) lg8).trans x5, (hb.cell (p := ⟨g, k * 8 + 6, none⟩) lg8).trans x6, (hb.cell (p := ⟨g, k * 8 + 7, none⟩) lg8).trans x7⟩
            have hS1 : Below w8.heap.size w8 w8.drew ∧ w8.drew.cell? ⟨cb, 1, none⟩ = some (.slice (some ⟨g, 0, none⟩) n c) ∧ w8.drew.cell? ⟨wr.heap.size, 0, none⟩ = some (.string y.sc.prj) ∧ w8.drew.cell? ⟨wr.heap.size, 1, none⟩ = some (.int .i64 y.sc.trust) ∧ w8.drew.cell? ⟨wr.heap.size, 2, none⟩ = some (.string y.sc.ref) ∧ w8.drew.cell? ⟨wr.heap.size, 3, none⟩ = some (.string y.key) ∧ w8.drew.cell? ⟨wr.heap.size, 4, none⟩ = some (.int .u64 y.dig) ∧ w8.drew.cell? ⟨wr.heap.size, 5, none⟩ = some (.int .i64 y.size) ∧ w8.drew.cell? ⟨wr.heap.size, 6, none⟩ = some (.int .i64 y.created) ∧ w8.drew.cell? ⟨wr.heap.size, 7, none⟩ = some (.int .i64 y.used) ∧ w8.drew.cell? ⟨g, k * 8, none⟩ = some (.string x.sc.prj) ∧ w8.drew.cell? ⟨g, k * 8 + 1, none⟩ = some (.int .i64 x.sc.trust) ∧ w8.drew.cell? ⟨g, k * 8 + 2, none⟩ = some (.string x.sc.ref) ∧ w8.drew.cell? ⟨g, k * 8 + 3, none⟩ = some (.string x.key) ∧ w8.drew.cell? ⟨g, k * 8 + 4, none⟩ = some (.int .u64 x.dig) ∧ w8.drew.cell? ⟨g, k * 8 + 5, none⟩ = some (.int .i64 x.size) ∧ w8.drew.cell? ⟨g, k * 8 + 6, none⟩ = some (.int .i64 x.created) ∧ w8.drew.cell? ⟨g, k * 8 + 7, none⟩ = some (.int .i64 x.used) := hS w8.drew (Below.refl _ _).drew
            have keepS : ∀ w' w'', (Below w8.heap.size w8 w' ∧ w'.cell? ⟨cb, 1, none⟩ = some (.slice (some ⟨g, 0, none⟩) n c) ∧ w'.cell? ⟨wr.heap.size, 0, none⟩ = some (.string y.sc.prj) ∧ w'.cell? ⟨wr.heap.size, 1, none⟩ = some (.int .i64 y.sc.trust) ∧ w'.cell? ⟨wr.heap.size, 2, none⟩ = some (.string y.sc.ref) ∧ w'.cell? ⟨wr.heap.size, 3, none⟩ = some (.string y.key) ∧ w'.cell? ⟨wr.heap.size, 4, none⟩ = some (.int .u64 y.dig) ∧ w'.cell? ⟨wr.heap.size, 5, none⟩ = some (.int .i64 y.size) ∧ w'.cell? ⟨wr.heap.size, 6, none⟩ = some (.int .i64 y.created) ∧ w'.cell? ⟨wr.heap.size, 7, none⟩ = some (.int .i64 y.used) ∧ w'.cell? ⟨g, k * 8, none⟩ = some (.string x.sc.prj) ∧ w'.cell? ⟨g, k * 8 + 1, none⟩ = some (.int .i64 x.sc.trust) ∧ w'.cell? ⟨g, k * 8 + 2, none⟩ = some (.string x.sc.ref) ∧ w'.cell? ⟨g, k * 8 + 3, none⟩ = some (.string x.key) ∧ w'.cell? ⟨g, k * 8 + 4, none⟩ = some (.int .u64 x.dig) ∧ w'.cell? ⟨g, k * 8 + 5, none⟩ = some (.int .i64 x.size) ∧ w'.cell? ⟨g, k * 8 + 6, none⟩ = some (.int .i64 x.created) ∧ w'.cell? ⟨g, k * 8 + 7, none⟩ = some (.int .i64 x.used)) → Below w'.heap.size w' w'' → (Below w8.heap.size w8 w'' ∧ w''.cell? ⟨cb, 1, none⟩ = some (.slice (some ⟨g, 0, none⟩) n c) ∧ w''.cell? ⟨wr.heap.size, 0, none⟩ = some (.string y.sc.prj) ∧ w''.cell? ⟨wr.heap.size, 1, none⟩ = some (.int .i64 y.sc.trust) ∧ w''.cell? ⟨wr.heap.size, 2, none⟩ = some (.string y.sc.ref) ∧ w''.cell? ⟨wr.heap.size, 3, none⟩ = some (.string y.key) ∧ w''.cell? ⟨wr.heap.size, 4, none⟩ = some (.int .u64 y.dig) ∧ w''.cell? ⟨wr.heap.size, 5, none⟩ = some (.int .i64 y.size) ∧ w''.cell? ⟨wr.heap.size, 6, none⟩ = some (.int .i64 y.created) ∧ w''.cell? ⟨wr.heap.size, 7, none⟩ = some (.int .i64 y.used) ∧ w''.cell? ⟨g, k * 8, none⟩ = some (.string x.sc.prj) ∧ w''.cell? ⟨g, k * 8 + 1, none⟩ = some (.int .i64 x.sc.trust) ∧ w''.cell? ⟨g, k * 8 + 2, none⟩ = some (.string x.sc.ref) ∧ w''.cell? ⟨g, k * 8 + 3, none⟩ = some (.string x.key) ∧ w''.cell? ⟨g, k * 8 + 4, none⟩ = some (.int .u64 x.dig) ∧ w''.cell? ⟨g, k * 8 + 5, none⟩ = some (.int .i64 x.size) ∧ w''.cell? ⟨g, k * 8 + 6, none⟩ = some (.int .i64 x.created) ∧ w''.cell? ⟨g, k * 8 + 7, none⟩ = some (.int .i64 x.used)) := fun w' w'' h hc => hS w'' (h.1.trans (hc.mono h.1.size))
            replace keepS := Lib.hid keepS
            clear hS
            refine wp_region_held_drew (S := fun w' => Below w8.heap.size w8 w' ∧ w'.cell? ⟨cb, 1, none⟩ = some (.slice (some ⟨g, 0, none⟩) n c) ∧ w'.cell? ⟨wr.heap.size, 0, none⟩ = some (.string y.sc.prj) ∧ w'.cell? ⟨wr.heap.size, 1, none⟩ = some (.int .i64 y.sc.trust) ∧ w'.cell? ⟨wr.heap.size, 2, none⟩ = some (.string y.sc.ref) ∧ w'.cell? ⟨wr.heap.size, 3, none⟩ = some (.string y.key) ∧ w'.cell? ⟨wr.heap.size, 4, none⟩ = some (.int .u64 y.dig) ∧ w'.cell? ⟨wr.heap.size, 5, none⟩ = some (.int .i64 y.size) ∧ w'.cell? ⟨wr.heap.size, 6, none⟩ = some (.int .i64 y.created) ∧ w'.cell? ⟨wr.heap.size, 7, none⟩ = some (.int .i64 y.used) ∧ w'.cell? ⟨g, k * 8, none⟩ = some (.string x.sc.prj) ∧ w'.cell? ⟨g, k * 8 + 1, none⟩ = some (.int .i64 x.sc.trust) ∧ w'.cell? ⟨g, k * 8 + 2, none⟩ = some (.string x.sc.ref) ∧ w'.cell? ⟨g, k * 8 + 3, none⟩ = some (.string x.key) ∧ w'.cell? ⟨g, k * 8 + 4, none⟩ = some (.int .u64 x.dig) ∧ w'.cell? ⟨g, k * 8 + 5, none⟩ = some (.int .i64 x.size) ∧ w'.cell? ⟨g, k * 8 + 6, none⟩ = some (.int .i64 x.created) ∧ w'.cell? ⟨g, k * 8 + 7, none⟩ = some (.int .i64 x.used)) (by kernel_rfl) ?_ (fun hHeld => ?_)
            · (try dsimp only)
              exact hS1
            refine wpAnyH_take (i := 0) (v := ?v308) rfl (by kernel_rfl) (by kernel_rfl) (by kernel_rfl) (fun _ _ _ h => h) (Or.inl ⟨by rfl, ?hy308⟩) (by assumption) ?rest308
            case hy308 => (intro w hSw; (try dsimp only at hSw); go_simp; try with_reducible rfl)
            simp only [Act.put, List.getElem_toArray, List.getElem_cons_zero, List.setIfInBounds_toArray, List.set_cons_zero, List.set_cons_succ]
            refine wpAnyH_take (i := 1) (v := ?v309) rfl (by kernel_rfl) (by kernel_rfl) (by kernel_rfl) (fun _ _ _ h => h) (Or.inl ⟨by rfl, ?hy309⟩) (by assumption) ?rest309
            case hy309 => (intro w hSw; (try dsimp only at hSw); go_simp; try with_reducible rfl)
            simp only [Act.put, List.getElem_toArray, List.getElem_cons_zero, List.getElem_cons_succ, List.setIfInBounds_toArray, List.set_cons_zero, List.set_cons_succ]
            refine wpAnyH_take (i := 2) (v := ?v310) rfl (by kernel_rfl) (by kernel_rfl) (by kernel_rfl) (fun _ _ _ h => h) (Or.inl ⟨by rfl, ?hy310⟩) (by assumption) ?rest310
            case hy310 => (intro w hSw; (try dsimp only at hSw); go_simp; try with_reducible rfl)
            simp only [Act.put, List.getElem_toArray, List.getElem_cons_zero, List.getElem_cons_succ, List.setIfInBounds_toArray, List.set_cons_zero, List.set_cons_succ]
            refine wpAnyH_take (i := 3) (v := ?v311) rfl (by kernel_rfl) (by kernel_rfl) (by kernel_rfl) (fun _ _ _ h => h) (Or.inl ⟨by rfl, ?hy311⟩) (by assumption) ?rest311
            case hy311 => (intro w hSw; (try dsimp only at hSw); go_simp; try with_reducible rfl)
            simp only [Act.put, List.getElem_toArray, List.getElem_cons_zero, List.getElem_cons_succ, List.setIfInBounds_toArray, List.set_cons_zero, List.set_cons_succ]
            refine wpAnyH_take (i := 4) (v := ?v312) rfl (by kernel_rfl) (by kernel_rfl) (by kernel_rfl) (fun _ _ _ h => h) (Or.inl ⟨by rfl, ?hy312⟩) (by assumption) ?rest312
            case hy312 => (intro w hSw; (try dsimp only at hSw); go_simp; try with_reducible rfl)
            simp only [Act.put, List.getElem_toArray, List.getElem_cons_zero, List.getElem_cons_succ, List.setIfInBounds_toArray, List.set_cons_zero, List.set_cons_succ]
            refine wpAnyH_take (i := 5) (v := ?v313) rfl (by kernel_rfl) (by kernel_rfl) (by kernel_rfl) (fun _ _ _ h => h) (Or.inl ⟨by rfl, ?hy313⟩) (by assumption) ?rest313
            case hy313 => (intro w hSw; (try dsimp only at hSw); go_simp; try with_reducible rfl)
            simp only [Act.put, List.getElem_toArray, List.getElem_cons_zero, List.getElem_cons_succ, List.setIfInBounds_toArray, List.set_cons_zero, List.set_cons_succ]
            refine wpAnyH_take (i := 6) (v := ?v314) rfl (by kernel_rfl) (by kernel_rfl) (by kernel_rfl) (fun _ _ _ h => h) (Or.inl ⟨by rfl, ?hy314⟩) (by assumption) ?rest314
            case hy314 => (intro w hSw; (try dsimp only at hSw); go_simp; try with_reducible rfl)
            simp only [Act.put, List.getElem_toArray, List.getElem_cons_zero, List.getElem_cons_succ, List.setIfInBounds_toArray, List.set_cons_zero, List.set_cons_succ]
            refine wpAnyH_take (i := 7) (v := ?v315) rfl (by kernel_rfl) (by kernel_rfl) (by kernel_rfl) (fun _ _ _ h => h) (Or.inl ⟨by rfl, ?hy315⟩) (by assumption) ?rest315
            case hy315 => (intro w hSw; (try dsimp only at hSw); go_simp; try with_reducible rfl)
            simp only [Act.put, List.getElem_toArray, List.getElem_cons_zero, List.getElem_cons_succ, List.setIfInBounds_toArray, List.set_cons_zero, List.set_cons_succ]
            refine wpAnyH_take (i := 8) (v := ?v316) rfl (by kernel_rfl) (by kernel_rfl) (by kernel_rfl) (fun _ _ _ h => h) (Or.inl ⟨by rfl, ?hy316⟩) (by assumption) ?rest316
            case hy316 => (intro w hSw; (try dsimp only at hSw); go_simp; try with_reducible rfl)
            simp only [Act.put, List.getElem_toArray, List.getElem_cons_zero, List.getElem_cons_succ, List.setIfInBounds_toArray, List.set_cons_zero, List.set_cons_succ]
            refine wpAnyH_ready (rs := [9]) (by kernel_rfl) (by simp) ?_
            refine AllReadyH.cons rfl (fun K hK => ?_) AllReadyH.nil
            go_simp
            go_at_call 67
            refine (roomc_any y x _).mono ?_
            rintro e w7 ⟨rfl, hbq⟩
            dsimp only
            refine hK.out _ _ ?_ (fun hHeld => ?_)
            · (try dsimp only)
              exact keepS.out _ _ hHeld hbq
            clear hK K
            try simp only [Act.put, List.getElem_toArray, List.getElem_cons_zero, List.getElem_cons_succ, List.setIfInBounds_toArray, List.set_cons_zero, List.set_cons_succ]
            refine wpAnyH_take (i := 10) (v := ?v317) rfl (by kernel_rfl) (by kernel_rfl) (by kernel_rfl) (fun _ _ _ h => h) (Or.inl ⟨by rfl, ?hy317⟩) (by assumption) ?rest317
            case hy317 => (intro w hSw; (try dsimp only at hSw); go_simp; try with_reducible rfl)
            simp only [Act.put, List.getElem_toArray, List.getElem_cons_zero, List.getElem_cons_succ, List.setIfInBounds_toArray, List.set_cons_zero, List.set_cons_succ]
            refine wpAnyH_done (by kernel_rfl) ?_ _
            have hb10 := hbi8.trans ((hHeld.1).mono hbi8.size)
            have hord := ordI_older y x
            cases ho : older y x with
            | true =>
              have hneg : ordI y x < 0 := hord.2 ho
              replace ho := Lib.hid ho
              clear hord
              repeat' ((fail_if_success at_builtin); (first | go_skip | go_guarded | go_step))
              go_roundw
              case rel => exact ⟨i, i + 1, y, by omega, by omega, rfl, by go_num, hy.out, hb10, by have := hu.out; rw [ho.out, if_pos rfl] at this; exact this⟩
              case measure => simp [intOf]; omega
            | false =>
              have hneg : ¬ ordI y x < 0 := fun h => by rw [hord.1 h] at ho; cases ho
              replace ho := Lib.hid ho
              clear hord
              repeat' ((fail_if_success at_builtin); (first | go_skip | go_guarded | go_step))
              go_roundw
              case rel => exact ⟨k, i + 1, x, by omega, by omega, rfl, by go_num, hxk.out, hb10, by have := hu.out; rw [ho.out, if_neg (by simp)] at this; exact this⟩
              case measure => simp [intOf]; omega
          · have i1 : ¬ ((i : Int) < (n : Int)) := by omega
            rw [List.drop_of_length_le (by have := hn.out; omega), oldF] at hu
            have hb8 := hb9.trans (hbi.mono hb9.size)
            have hO8 : OwnL W0 wr (.slice (some ⟨g, 0, none⟩) n c) l' := hn.out ▸ hO.below hb8
            have C := delE_any l' g c n k W0 wr hn.out hO8 hk (by omega)
            have hfr8 := fun j => (hb8.frozen (p := ⟨cb, j, none⟩) lcb).trans (hfz j)
            have k2 : IntKind.i64.wrap ((k : Int) + 1) = (k : Int) + 1 := IntWalk.i64_in _ (by omega)
            have hlc : cb < wr.heap.size := by omega
            replace C := Lib.hid C
            replace hu := Lib.hid hu
            clear hcell hO8 hxk
            repeat' ((fail_if_success at_builtin); (first | go_skip | go_guarded | go_step))
            refine C.out.mono ?_
            rintro e w10 ⟨rfl, hO10, hg10⟩
            dsimp only
            have r0 := (grow_cell hg10 (p := ⟨cb, 0, none⟩) hlc (by show cb ≠ g; omega)).trans p0
            have r1 := (grow_cell hg10 (p := ⟨cb, 1, none⟩) hlc (by show cb ≠ g; omega)).trans q1
            have rf : ∀ j, w10.frozen? ⟨cb, j, none⟩ = false := fun j => (World.frozen?_of_block (hg10.block cb hlc (fun e => by injection e; omega))).trans (hfr8 j)
            have hl10 : (l'.eraseIdx k).length = n - 1 := by rw [List.length_eraseIdx_of_lt (by have := hn.out; omega), hn.out]
            have ho10 := hO10.1
            rw [hW0, hl10] at ho10
            have hkb10 : KeepBut B cb w w10 := hkb.trans ((KeepBut.below hb8 hBr).trans (KeepBut.grown hg10 hg0 (by omega)))
            have rf1 := rf 1
            replace hO10 := Lib.hid hO10
            replace hg10 := Lib.hid hg10
            replace hl10 := Lib.hid hl10
            replace ho10 := Lib.hid ho10
            replace hkb10 := Lib.hid hkb10
            replace rf := Lib.hid rf
            clear C hfr8 hb8
            repeat' ((fail_if_success at_builtin); (first | go_skip | go_guarded | go_step))
            go_roundw
            case rel =>
              refine ⟨l'.eraseIdx k, some ⟨g, 0, none⟩, n - 1, c, hl10.out.symm, ?_, ?_, ?_, ?_, hkb10.out.trans (KeepBut.setCell _), hok.erase k, by rw [hst.out, hu.out]⟩
              · exact ownsRow_setCell_below ho10.out (a := ⟨cb, 1, none⟩) hcb _
              · rw [World.cell?_setCell_other w10 _ _ _ (by simp)]; exact r0
              · exact World.cell?_setCell_same w10 _ _ r1
              · intro j; rw [World.frozen?_setCell]; exact rf.out j
            case measure =>
              have h1 : sizeAt cb (w10.setCell ⟨cb, 1, none⟩ (.slice (some ⟨g, 0, none⟩) (n - 1) c)) = n - 1 := by
                unfold sizeAt
                rw [World.cell?_setCell_same w10 _ _ r1]
              rw [h1, hmeas.out]
              omega
      · have h1' : ¬ ((1024 : Int) ≤ (n : Int)) := by omega
        have h2 : z < us + s := by
          rw [decide_eq_false h1, Bool.false_or] at hfull
          simpa using hfull.symm
        clear hfull
        have hS1 : Below wr.heap.size wr wr.drew ∧ wr.drew.cell? ⟨cb, 0, none⟩ = some (.int .i64 z) ∧ wr.drew.cell? ⟨cb, 1, none⟩ = some (.slice (some ⟨g, 0, none⟩) n c) := ⟨(Below.refl _ _).drew, c0, c1⟩
        have keepS : ∀ w' w'', (Below wr.heap.size wr w' ∧ w'.cell? ⟨cb, 0, none⟩ = some (.int .i64 z) ∧ w'.cell? ⟨cb, 1, none⟩ = some (.slice (some ⟨g, 0, none⟩) n c)) → Below w'.heap.size w' w'' → (Below wr.heap.size wr w'' ∧ w''.cell? ⟨cb, 0, none⟩ = some (.int .i64 z) ∧ w''.cell? ⟨cb, 1, none⟩ = some (.slice (some ⟨g, 0, none⟩) n c)) := fun w' w'' h hc => ⟨h.1.trans (hc.mono h.1.size), (hc.cell (p := ⟨cb, 0, none⟩) (Nat.lt_of_lt_of_le lcb h.1.size)).trans h.2.1, (hc.cell (p := ⟨cb, 1, none⟩) (Nat.lt_of_lt_of_le lcb h.1.size)).trans h.2.2⟩
        replace keepS := Lib.hid keepS
        repeat' ((fail_if_success at_builtin); (first | go_skip | go_guarded | go_step))
        refine wp_region_held_drew (S := fun w' => Below wr.heap.size wr w' ∧ w'.cell? ⟨cb, 0, none⟩ = some (.int .i64 z) ∧ w'.cell? ⟨cb, 1, none⟩ = some (.slice (some ⟨g, 0, none⟩) n c)) (by kernel_rfl) ?_ (fun hHeld => ?_)
        · (try dsimp only)
          exact hS1
        refine wpAnyH_take (i := 0) (v := ?v344) rfl (by kernel_rfl) (by kernel_rfl) (by kernel_rfl) (fun _ _ _ h => h) (Or.inl ⟨by rfl, ?hy344⟩) (by assumption) ?rest344
        case hy344 => (intro w hSw; (try dsimp only at hSw); go_simp; try with_reducible rfl)
        simp only [Act.put, List.getElem_toArray, List.getElem_cons_zero, List.setIfInBounds_toArray, List.set_cons_zero, List.set_cons_succ]
        refine wpAnyH_take (i := 1) (v := ?v345) rfl (by kernel_rfl) (by kernel_rfl) (by kernel_rfl) (fun _ _ _ h => h) (Or.inl ⟨by rfl, ?hy345⟩) (by assumption) ?rest345
        case hy345 => (intro w hSw; (try dsimp only at hSw); go_simp; try with_reducible rfl)
        simp only [Act.put, List.getElem_toArray, List.getElem_cons_zero, List.getElem_cons_succ, List.setIfInBounds_toArray, List.set_cons_zero, List.set_cons_succ]
        refine wpAnyH_take (i := 2) (v := ?v346) rfl (by kernel_rfl) (by kernel_rfl) (by kernel_rfl) (fun _ _ _ h => h) (Or.inl ⟨by rfl, ?hy346⟩) (by assumption) ?rest346
        case hy346 => (intro w hSw; (try dsimp only at hSw); go_simp; try with_reducible rfl)
        simp only [Act.put, List.getElem_toArray, List.getElem_cons_zero, List.getElem_cons_succ, List.setIfInBounds_toArray, List.set_cons_zero, List.set_cons_succ]
        refine wpAnyH_take (i := 3) (v := ?v347) rfl (by kernel_rfl) (by kernel_rfl) (by kernel_rfl) (fun _ _ _ h => h) (Or.inl ⟨by rfl, ?hy347⟩) (by assumption) ?rest347
        case hy347 => (intro w hSw; (try dsimp only at hSw); go_simp; try with_reducible rfl)
        simp only [Act.put, List.getElem_toArray, List.getElem_cons_zero, List.getElem_cons_succ, List.setIfInBounds_toArray, List.set_cons_zero, List.set_cons_succ]
        refine wpAnyH_take (i := 4) (v := ?v348) rfl (by kernel_rfl) (by kernel_rfl) (by kernel_rfl) (fun _ _ _ h => h) (Or.inl ⟨by rfl, ?hy348⟩) (by assumption) ?rest348
        case hy348 => (intro w hSw; (try dsimp only at hSw); go_simp; try with_reducible rfl)
        simp only [Act.put, List.getElem_toArray, List.getElem_cons_zero, List.getElem_cons_succ, List.setIfInBounds_toArray, List.set_cons_zero, List.set_cons_succ]
        refine wpAnyH_take (i := 5) (v := ?v349) rfl (by kernel_rfl) (by kernel_rfl) (by kernel_rfl) (fun _ _ _ h => h) (Or.inl ⟨by rfl, ?hy349⟩) (by assumption) ?rest349
        case hy349 => (intro w hSw; (try dsimp only at hSw); go_simp; try with_reducible rfl)
        simp only [Act.put, List.getElem_toArray, List.getElem_cons_zero, List.getElem_cons_succ, List.setIfInBounds_toArray, List.set_cons_zero, List.set_cons_succ]
        refine wpAnyH_take (i := 6) (v := ?v350) rfl (by kernel_rfl) (by kernel_rfl) (by kernel_rfl) (fun _ _ _ h => h) (Or.inl ⟨by rfl, ?hy350⟩) (by assumption) ?rest350
        case hy350 => (intro w hSw; (try dsimp only at hSw); go_simp; try with_reducible rfl)
        simp only [Act.put, List.getElem_toArray, List.getElem_cons_zero, List.getElem_cons_succ, List.setIfInBounds_toArray, List.set_cons_zero, List.set_cons_succ]
        refine wpAnyH_take (i := 7) (v := ?v351) rfl (by kernel_rfl) (by kernel_rfl) (by kernel_rfl) (fun _ _ _ h => h) (Or.inl ⟨by rfl, ?hy351⟩) (by assumption) ?rest351
        case hy351 => (intro w hSw; (try dsimp only at hSw); go_simp; try with_reducible rfl)
        simp only [Act.put, List.getElem_toArray, List.getElem_cons_zero, List.getElem_cons_succ, List.setIfInBounds_toArray, List.set_cons_zero, List.set_cons_succ]
        refine wpAnyH_take (i := 8) (v := ?v352) rfl (by kernel_rfl) (by kernel_rfl) (by kernel_rfl) (fun _ _ _ h => h) (Or.inl ⟨by rfl, ?hy352⟩) (by assumption) ?rest352
        case hy352 => (intro w hSw; (try dsimp only at hSw); go_simp; try with_reducible rfl)
        simp only [Act.put, List.getElem_toArray, List.getElem_cons_zero, List.getElem_cons_succ, List.setIfInBounds_toArray, List.set_cons_zero, List.set_cons_succ]
        refine wpAnyH_take (i := 9) (v := ?v353) rfl (by kernel_rfl) (by kernel_rfl) (by kernel_rfl) (fun _ _ _ h => h) (Or.inl ⟨by rfl, ?hy353⟩) (by assumption) ?rest353
        case hy353 => (intro w hSw; (try dsimp only at hSw); go_simp; try with_reducible rfl)
        simp only [Act.put, List.getElem_toArray, List.getElem_cons_zero, List.getElem_cons_succ, List.setIfInBounds_toArray, List.set_cons_zero, List.set_cons_succ]
        refine wpAnyH_take (i := 11) (v := ?v354) rfl (by kernel_rfl) (by kernel_rfl) (by kernel_rfl) (fun _ _ _ h => h) (Or.inl ⟨by rfl, ?hy354⟩) (by assumption) ?rest354
        case hy354 => (intro w hSw; (try dsimp only at hSw); go_simp; try with_reducible rfl)
        simp only [Act.put, List.getElem_toArray, List.getElem_cons_zero, List.getElem_cons_succ, List.setIfInBounds_toArray, List.set_cons_zero, List.set_cons_succ]
        refine wpAnyH_take (i := 13) (v := ?v355) rfl (by kernel_rfl) (by kernel_rfl) (by kernel_rfl) (fun _ _ _ h => h) (Or.inl ⟨by rfl, ?hy355⟩) (by assumption) ?rest355
        case hy355 => (intro w hSw; (try dsimp only at hSw); go_simp; try with_reducible rfl)
        simp only [Act.put, List.getElem_toArray, List.getElem_cons_zero, List.getElem_cons_succ, List.setIfInBounds_toArray, List.set_cons_zero, List.set_cons_succ]
        refine wpAnyH_take (i := 14) (v := ?v356) rfl (by kernel_rfl) (by kernel_rfl) (by kernel_rfl) (fun _ _ _ h => h) (Or.inl ⟨by rfl, ?hy356⟩) (by assumption) ?rest356
        case hy356 => (intro w hSw; (try dsimp only at hSw); go_simp; try with_reducible rfl)
        simp only [Act.put, List.getElem_toArray, List.getElem_cons_zero, List.getElem_cons_succ, List.setIfInBounds_toArray, List.set_cons_zero, List.set_cons_succ]
        refine wpAnyH_take (i := 15) (v := ?v357) rfl (by kernel_rfl) (by kernel_rfl) (by kernel_rfl) (fun _ _ _ h => h) (Or.inl ⟨by rfl, ?hy357⟩) (by assumption) ?rest357
        case hy357 => (intro w hSw; (try dsimp only at hSw); go_simp; try with_reducible rfl)
        simp only [Act.put, List.getElem_toArray, List.getElem_cons_zero, List.getElem_cons_succ, List.setIfInBounds_toArray, List.set_cons_zero, List.set_cons_succ]
        refine wpAnyH_take (i := 16) (v := ?v358) rfl (by kernel_rfl) (by kernel_rfl) (by kernel_rfl) (fun _ _ _ h => h) (Or.inl ⟨by rfl, ?hy358⟩) (by assumption) ?rest358
        case hy358 => (intro w hSw; (try dsimp only at hSw); go_simp; try with_reducible rfl)
        simp only [Act.put, List.getElem_toArray, List.getElem_cons_zero, List.getElem_cons_succ, List.setIfInBounds_toArray, List.set_cons_zero, List.set_cons_succ]
        refine wpAnyH_ready (rs := [10]) (by kernel_rfl) (by simp) ?_
        refine AllReadyH.cons rfl (fun K hK => ?_) AllReadyH.nil
        go_simp
        go_at_call 13
        refine (CU.out _ hHeld.1).mono ?_
        rintro e w7 ⟨rfl, hbq⟩
        dsimp only
        refine hK.out _ _ ?_ (fun hHeld => ?_)
        · (try dsimp only)
          exact keepS.out _ _ hHeld hbq
        clear hK K
        try simp only [Act.put, List.getElem_toArray, List.getElem_cons_zero, List.getElem_cons_succ, List.setIfInBounds_toArray, List.set_cons_zero, List.set_cons_succ]
        refine wpAnyH_take (i := 12) (v := ?v359) rfl (by kernel_rfl) (by kernel_rfl) (by kernel_rfl) (fun _ _ _ h => h) (Or.inl ⟨by rfl, ?hy359⟩) (by assumption) ?rest359
        case hy359 => (intro w hSw; (try dsimp only at hSw); go_simp; try with_reducible rfl)
        simp only [Act.put, List.getElem_toArray, List.getElem_cons_zero, List.getElem_cons_succ, List.setIfInBounds_toArray, List.set_cons_zero, List.set_cons_succ]
        refine wpAnyH_take (i := 17) (v := ?v360) rfl (by kernel_rfl) (by kernel_rfl) (by kernel_rfl) (fun _ _ _ h => h) (Or.inl ⟨by rfl, ?hy360⟩) (by assumption) ?rest360
        case hy360 => (intro w hSw; (try dsimp only at hSw); go_simp; try with_reducible rfl)
        simp only [Act.put, List.getElem_toArray, List.getElem_cons_zero, List.getElem_cons_succ, List.setIfInBounds_toArray, List.set_cons_zero, List.set_cons_succ]
        refine wpAnyH_take (i := 18) (v := ?v361) rfl (by kernel_rfl) (by kernel_rfl) (by kernel_rfl) (fun _ _ _ h => h) (Or.inl ⟨by rfl, ?hy361⟩) (by assumption) ?rest361
        case hy361 => (intro w hSw; (try dsimp only at hSw); go_simp; try with_reducible rfl)
        simp only [Act.put, List.getElem_toArray, List.getElem_cons_zero, List.getElem_cons_succ, List.setIfInBounds_toArray, List.set_cons_zero, List.set_cons_succ]
        refine wpAnyH_done (by kernel_rfl) ?_ _
        obtain ⟨hb9, d0, d1⟩ := hHeld
        repeat' ((fail_if_success at_builtin); (first | go_skip | go_guarded | go_step))
        obtain ⟨wo, hwo⟩ : ∃ wo : World, wo = wr := ⟨wr, rfl⟩
        subst hwo
        have hz9 := hb9.size
        have hx0 : l'[0]? = some (l'[0]'(by omega)) := List.getElem?_eq_getElem (by omega)
        have hst0 : oldS l' = oldF (l'[0]'(by omega)) 0 0 (l'.drop 0) := by
          cases l' with
          | nil => simp at hol
          | cons x r => simp [oldS, oldF, older_self]
        generalize l'[0]'(by omega) = x0 at hx0 hst0
        replace hx0 := Lib.hid hx0
        replace hst0 := Lib.hid hst0
        have l0' : (0 : Int) ≤ (n : Int) := by omega
        go_loopw [5, 32] (fun u5 u32 wx => ∃ (k i : Nat) (x : Ent), i ≤ n ∧ k < n ∧ u5 = .int .i64 (k : Int) ∧ u32 = .int .i64 (i : Int) ∧ l'[k]? = some x ∧ Below w7.heap.size w7 wx ∧ oldS l' = oldF x k i (l'.drop i)) (fun _ u32 _ => n - (intOf u32).toNat)
        case atStart => exact ⟨0, 0, x0, by omega, hn0, rfl, rfl, hx0.out, Below.refl _ _, hst0.out⟩
        case round =>
          clear hst0 hx0
          obtain ⟨k, i, x, hi, hk, rfl, rfl, hxk, hbi, hu⟩ := hrel
          have hzi := hbi.size
          have p0 := (hbi.cell (p := ⟨cb, 0, none⟩) (by show cb < _; omega)).trans d0
          have q1 := (hbi.cell (p := ⟨cb, 1, none⟩) (by show cb < _; omega)).trans d1
          have hcell : ∀ j u, (entsC l')[j]? = some u → wr.cell? ⟨g, j, none⟩ = some u := fun j u hu => (hbi.cell (p := ⟨g, j, none⟩) (by show g < _; omega)).trans ((hb9.cell (p := ⟨g, j, none⟩) hg1).trans (hgc j u hu))
          have k0 : (0 : Int) ≤ (k : Int) := by omega
          have k1 : (k : Int) < (n : Int) := by omega
          by_cases hlt : i < n
          · have hlt2 : i < l'.length := by have := hn.out; omega
            have hy : l'[i]? = some l'[i] := List.getElem?_eq_getElem hlt2
            rw [List.drop_eq_getElem_cons hlt2, oldF] at hu
            generalize l'[i] = y at *
            have y0 := hcell (i * 8 + 0) _ (flat8 hy (j := 0) rfl)
            have y1 := hcell (i * 8 + 1) _ (flat8 hy (j := 1) rfl)
            have y2 := hcell (i * 8 + 2) _ (flat8 hy (j := 2) rfl)
            have y3 := hcell (i * 8 + 3) _ (flat8 hy (j := 3) rfl)
            have y4 := hcell (i * 8 + 4) _ (flat8 hy (j := 4) rfl)
            have y5 := hcell (i * 8 + 5) _ (flat8 hy (j := 5) rfl)
            have y6 := hcell (i * 8 + 6) _ (flat8 hy (j := 6) rfl)
            have y7 := hcell (i * 8 + 7) _ (flat8 hy (j := 7) rfl)
            have xx0 := hcell (k * 8 + 0) _ (flat8 hxk (j := 0) rfl)
            have xx1 := hcell (k * 8 + 1) _ (flat8 hxk (j := 1) rfl)
            have xx2 := hcell (k * 8 + 2) _ (flat8 hxk (j := 2) rfl)
            have xx3 := hcell (k * 8 + 3) _ (flat8 hxk (j := 3) rfl)
            have xx4 := hcell (k * 8 + 4) _ (flat8 hxk (j := 4) rfl)
            have xx5 := hcell (k * 8 + 5) _ (flat8 hxk (j := 5) rfl)
            have xx6 := hcell (k * 8 + 6) _ (flat8 hxk (j := 6) rfl)
            have xx7 := hcell (k * 8 + 7) _ (flat8 hxk (j := 7) rfl)
            simp only [Nat.add_zero] at y0 xx0
            have i0 : (0 : Int) ≤ (i : Int) := by omega
            have i1 : (i : Int) < (n : Int) := by omega
            have i2 : IntKind.i64.wrap ((i : Int) + 1) = (i : Int) + 1 := IntWalk.i64_in _ (by omega)
            have hlc : cb < wr.heap.size := by omega
            have hlg : g < wr.heap.size := by omega
            replace hu := Lib.hid hu
            replace hxk := Lib.hid hxk
            replace hy := Lib.hid hy
            clear hcell
            repeat' ((fail_if_success at_builtin); (first | go_skip | go_guarded | go_step))
            generalize hw8 : World.alloc wr _ = w8
            have hbw : Below wr.heap.size wr w8 := by rw [← hw8]; exact (Below.refl _ _).alloc (Nat.le_refl _) _
            have e0 : w8.cell? ⟨wr.heap.size, 0, none⟩ = some (.string y.sc.prj) := by rw [← hw8]; simp [go_sem]
            have e1 : w8.cell? ⟨wr.heap.size, 1, none⟩ = some (.int .i64 y.sc.trust) := by rw [← hw8]; simp [go_sem]
            have e2 : w8.cell? ⟨wr.heap.size, 2, none⟩ = some (.string y.sc.ref) := by rw [← hw8]; simp [go_sem]
            have e3 : w8.cell? ⟨wr.heap.size, 3, none⟩ = some (.string y.key) := by rw [← hw8]; simp [go_sem]
            have e4 : w8.cell? ⟨wr.heap.size, 4, none⟩ = some (.int .u64 y.dig) := by rw [← hw8]; simp [go_sem]
            have e5 : w8.cell? ⟨wr.heap.size, 5, none⟩ = some (.int .i64 y.size) := by rw [← hw8]; simp [go_sem]
            have e6 : w8.cell? ⟨wr.heap.size, 6, none⟩ = some (.int .i64 y.created) := by rw [← hw8]; simp [go_sem]
            have e7 : w8.cell? ⟨wr.heap.size, 7, none⟩ = some (.int .i64 y.used) := by rw [← hw8]; simp [go_sem]
            have hz8 : w8.heap.size = wr.heap.size + 1 := by rw [← hw8]; simp
            clear hw8 y0 y1 y2 y3 y4 y5 y6 y7
            have le8 : wr.heap.size < w8.heap.size := by omega
            have lc8 : cb < w8.heap.size := by omega
            have lg8 : g < w8.heap.size := by omega
            replace q1 := (hbw.cell (p := ⟨cb, 1, none⟩) hlc).trans q1
            have x0 := (hbw.cell (p := ⟨g, k * 8, none⟩) hlg).trans xx0
            have x1 := (hbw.cell (p := ⟨g, k * 8 + 1, none⟩) hlg).trans xx1
            have x2 := (hbw.cell (p := ⟨g, k * 8 + 2, none⟩) hlg).trans xx2
            have x3 := (hbw.cell (p := ⟨g, k * 8 + 3, none⟩) hlg).trans xx3
            have x4 := (hbw.cell (p := ⟨g, k * 8 + 4, none⟩) hlg).trans xx4
            have x5 := (hbw.cell (p := ⟨g, k * 8 + 5, none⟩) hlg).trans xx5
            have x6 := (hbw.cell (p := ⟨g, k * 8 + 6, none⟩) hlg).trans xx6
            have x7 := (hbw.cell (p := ⟨g, k * 8 + 7, none⟩) hlg).trans xx7
            clear xx0 xx1 xx2 xx3 xx4 xx5 xx6 xx7
            have hbi8 := hbi.trans (hbw.mono hbi.size)
            have hS : ∀ w', Below w8.heap.size w8 w' → Below w8.heap.size w8 w' ∧ w'.cell? ⟨cb, 1, none⟩ = some (.slice (some ⟨g, 0, none⟩) n c) ∧ w'.cell? ⟨wr.heap.size, 0, none⟩ = some (.string y.sc.prj) ∧ w'.cell? ⟨wr.heap.size, 1, none⟩ = some (.int .i64 y.sc.trust) ∧ w'.cell? ⟨wr.heap.size, 2, none⟩ = some (.string y.sc.ref) ∧ w'.cell? ⟨wr.heap.size, 3, none⟩ = some (.string y.key) ∧ w'.cell? ⟨wr.heap.size, 4, none⟩ = some (.int .u64 y.dig) ∧ w'.cell? ⟨wr.heap.size, 5, none⟩ = some (.int .i64 y.size) ∧ w'.cell? ⟨wr.heap.size, 6, none⟩ = some (.int .i64 y.created) ∧ w'.cell? ⟨wr.heap.size, 7, none⟩ = some (.int .i64 y.used) ∧ w'.cell? ⟨g, k * 8, none⟩ = some (.string x.sc.prj) ∧ w'.cell? ⟨g, k * 8 + 1, none⟩ = some (.int .i64 x.sc.trust) ∧ w'.cell? ⟨g, k * 8 + 2, none⟩ = some (.string x.sc.ref) ∧ w'.cell? ⟨g, k * 8 + 3, none⟩ = some (.string x.key) ∧ w'.cell? ⟨g, k * 8 + 4, none⟩ = some (.int .u64 x.dig) ∧ w'.cell? ⟨g, k * 8 + 5, none⟩ = some (.int .i64 x.size) ∧ w'.cell? ⟨g, k * 8 + 6, none⟩ = some (.int .i64 x.created) ∧ w'.cell? ⟨g, k * 8 + 7, none⟩ = some (.int .i64 x.used) := fun w' hb => ⟨hb, (hb.cell (p := ⟨cb, 1, none⟩) lc8).trans q1, (hb.cell (p := ⟨wr.heap.size, 0, none⟩) le8).trans e0, (hb.cell (p := ⟨wr.heap.size, 1, none⟩) le8).trans e1, (hb.cell (p := ⟨wr.heap.size, 2, none⟩) le8).trans e2, (hb.cell (p := ⟨wr.heap.size, 3, none⟩) le8).trans e3, (hb.cell (p := ⟨wr.heap.size, 4, none⟩) le8).trans e4, (hb.cell (p := ⟨wr.heap.size, 5, none⟩) le8).trans e5, (hb.cell (p := ⟨wr.heap.size, 6, none⟩) le8).trans e6, (hb.cell (p := ⟨wr.heap.size, 7, none⟩) le8).trans e7, (hb.cell (p := ⟨g, k * 8, none⟩) lg8).trans x0, (hb.cell (p := ⟨g, k * 8 + 1, none⟩) lg8).trans x1, (hb.cell (p := ⟨g, k * 8 + 2, none⟩) lg8).trans x2, (hb.cell (p := ⟨g, k * 8 + 3, none⟩) lg8).trans x3, (hb.cell (p := ⟨g, k * 8 + 4, none⟩) lg8).trans x4, (hb.cell (p := ⟨g, k * 8 + 5, none⟩) lg8).trans x5, (hb.cell (p := ⟨g, k * 8 + 6, none⟩) lg8).trans x6, (hb.cell (p := ⟨g, k * 8 + 7, none⟩) lg8).trans x7⟩
            have hS1 : Below w8.heap.size w8 w8.drew ∧ w8.drew.cell? ⟨cb, 1, none⟩ = some (.slice (some ⟨g, 0, none⟩) n c) ∧ w8.drew.cell? ⟨wr.heap.size, 0, none⟩ = some (.string y.sc.prj) ∧ w8.drew.cell? ⟨wr.heap.size, 1, none⟩ = some (.int .i64 y.sc.trust) ∧ w8.drew.cell? ⟨wr.heap.size, 2, none⟩ = some (.string y.sc.ref) ∧ w8.drew.cell? ⟨wr.heap.size, 3, none⟩ = some (.string y.key) ∧ w8.drew.cell? ⟨wr.heap.size, 4, none⟩ = some (.int .u64 y.dig) ∧ w8.drew.cell? ⟨wr.heap.size, 5, none⟩ = some (.int .i64 y.size) ∧ w8.drew.cell? ⟨wr.heap.size, 6, none⟩ = some (.int .i64 y.created) ∧ w8.drew.cell? ⟨wr.heap.size, 7, none⟩ = some (.int .i64 y.used) ∧ w8.drew.cell? ⟨g, k * 8, none⟩ = some (.string x.sc.prj) ∧ w8.drew.cell? ⟨g, k * 8 + 1, none⟩ = some (.int .i64 x.sc.trust) ∧ w8.drew.cell? ⟨g, k * 8 + 2, none⟩ = some (.string x.sc.ref) ∧ w8.drew.cell? ⟨g, k * 8 + 3, none⟩ = some (.string x.key) ∧ w8.drew.cell? ⟨g, k * 8 + 4, none⟩ = some (.int .u64 x.dig) ∧ w8.drew.cell? ⟨g, k * 8 + 5, none⟩ = some (.int .i64 x.size) ∧ w8.drew.cell? ⟨g, k * 8 + 6, none⟩ = some (.int .i64 x.created) ∧ w8.drew.cell? ⟨g, k * 8 + 7, none⟩ = some (.int .i64 x.used) := hS w8.drew (Below.refl _ _).drew
            have keepS : ∀ w' w'', (Below w8.heap.size w8 w' ∧ w'.cell? ⟨cb, 1, none⟩ = some (.slice (some ⟨g, 0, none⟩) n c) ∧ w'.cell? ⟨wr.heap.size, 0, none⟩ = some (.string y.sc.prj) ∧ w'.cell? ⟨wr.heap.size, 1, none⟩ = some (.int .i64 y.sc.trust) ∧ w'.cell? ⟨wr.heap.size, 2, none⟩ = some (.string y.sc.ref) ∧ w'.cell? ⟨wr.heap.size, 3, none⟩ = some (.string y.key) ∧ w'.cell? ⟨wr.heap.size, 4, none⟩ = some (.int .u64 y.dig) ∧ w'.cell? ⟨wr.heap.size, 5, none⟩ = some (.int .i64 y.size) ∧ w'.cell? ⟨wr.heap.size, 6, none⟩ = some (.int .i64 y.created) ∧ w'.cell? ⟨wr.heap.size, 7, none⟩ = some (.int .i64 y.used) ∧ w'.cell? ⟨g, k * 8, none⟩ = some (.string x.sc.prj) ∧ w'.cell? ⟨g, k * 8 + 1, none⟩ = some (.int .i64 x.sc.trust) ∧ w'.cell? ⟨g, k * 8 + 2, none⟩ = some (.string x.sc.ref) ∧ w'.cell? ⟨g, k * 8 + 3, none⟩ = some (.string x.key) ∧ w'.cell? ⟨g, k * 8 + 4, none⟩ = some (.int .u64 x.dig) ∧ w'.cell? ⟨g, k * 8 + 5, none⟩ = some (.int .i64 x.size) ∧ w'.cell? ⟨g, k * 8 + 6, none⟩ = some (.int .i64 x.created) ∧ w'.cell? ⟨g, k * 8 + 7, none⟩ = some (.int .i64 x.used)) → Below w'.heap.size w' w'' → (Below w8.heap.size w8 w'' ∧ w''.cell? ⟨cb, 1, none⟩ = some (.slice (some ⟨g, 0, none⟩) n c) ∧ w''.cell? ⟨wr.heap.size, 0, none⟩ = some (.string y.sc.prj) ∧ w''.cell? ⟨wr.heap.size, 1, none⟩ = some (.int .i64 y.sc.trust) ∧ w''.cell? ⟨wr.heap.size, 2, none⟩ = some (.string y.sc.ref) ∧ w''.cell? ⟨wr.heap.size, 3, none⟩ = some (.string y.key) ∧ w''.cell? ⟨wr.heap.size, 4, none⟩ = some (.int .u64 y.dig) ∧ w''.cell? ⟨wr.heap.size, 5, none⟩ = some (.int .i64 y.size) ∧ w''.cell? ⟨wr.heap.size, 6, none⟩ = some (.int .i64 y.created) ∧ w''.cell? ⟨wr.heap.size, 7, none⟩ = some (.int .i64 y.used) ∧ w''.cell? ⟨g, k * 8, none⟩ = some (.string x.sc.prj) ∧ w''.cell? ⟨g, k * 8 + 1, none⟩ = some (.int .i64 x.sc.trust) ∧ w''.cell? ⟨g, k * 8 + 2, none⟩ = some (.string x.sc.ref) ∧ w''.cell? ⟨g, k * 8 + 3, none⟩ = some (.string x.key) ∧ w''.cell? ⟨g, k * 8 + 4, none⟩ = some (.int .u64 x.dig) ∧ w''.cell? ⟨g, k * 8 + 5, none⟩ = some (.int .i64 x.size) ∧ w''.cell? ⟨g, k * 8 + 6, none⟩ = some (.int .i64 x.created) ∧ w''.cell? ⟨g, k * 8 + 7, none⟩ = some (.int .i64 x.used)) := fun w' w'' h hc => hS w'' (h.1.trans (hc.mono h.1.size))
            replace keepS := Lib.hid keepS
            clear hS
            refine wp_region_held_drew (S := fun w' => Below w8.heap.size w8 w' ∧ w'.cell? ⟨cb, 1, none⟩ = some (.slice (some ⟨g, 0, none⟩) n c) ∧ w'.cell? ⟨wr.heap.size, 0, none⟩ = some (.string y.sc.prj) ∧ w'.cell? ⟨wr.heap.size, 1, none⟩ = some (.int .i64 y.sc.trust) ∧ w'.cell? ⟨wr.heap.size, 2, none⟩ = some (.string y.sc.ref) ∧ w'.cell? ⟨wr.heap.size, 3, none⟩ = some (.string y.key) ∧ w'.cell? ⟨wr.heap.size, 4, none⟩ = some (.int .u64 y.dig) ∧ w'.cell? ⟨wr.heap.size, 5, none⟩ = some (.int .i64 y.size) ∧ w'.cell? ⟨wr.heap.size, 6, none⟩ = some (.int .i64 y.created) ∧ w'.cell? ⟨wr.heap.size, 7, none⟩ = some (.int .i64 y.used) ∧ w'.cell? ⟨g, k * 8, none⟩ = some (.string x.sc.prj) ∧ w'.cell? ⟨g, k * 8 + 1, none⟩ = some (.int .i64 x.sc.trust) ∧ w'.cell? ⟨g, k * 8 + 2, none⟩ = some (.string x.sc.ref) ∧ w'.cell? ⟨g, k * 8 + 3, none⟩ = some (.string x.key) ∧ w'.cell? ⟨g, k * 8 + 4, none⟩ = some (.int .u64 x.dig) ∧ w'.cell? ⟨g, k * 8 + 5, none⟩ = some (.int .i64 x.size) ∧ w'.cell? ⟨g, k * 8 + 6, none⟩ = some (.int .i64 x.created) ∧ w'.cell? ⟨g, k * 8 + 7, none⟩ = some (.int .i64 x.used)) (by kernel_rfl) ?_ (fun hHeld => ?_)
            · (try dsimp only)
              exact hS1
            refine wpAnyH_take (i := 0) (v := ?v9308) rfl (by kernel_rfl) (by kernel_rfl) (by kernel_rfl) (fun _ _ _ h => h) (Or.inl ⟨by rfl, ?hy9308⟩) (by assumption) ?rest9308
            case hy9308 => (intro w hSw; (try dsimp only at hSw); go_simp; try with_reducible rfl)
            simp only [Act.put, List.getElem_toArray, List.getElem_cons_zero, List.setIfInBounds_toArray, List.set_cons_zero, List.set_cons_succ]
            refine wpAnyH_take (i := 1) (v := ?v9309) rfl (by kernel_rfl) (by kernel_rfl) (by kernel_rfl) (fun _ _ _ h => h) (Or.inl ⟨by rfl, ?hy9309⟩) (by assumption) ?rest9309
            case hy9309 => (intro w hSw; (try dsimp only at hSw); go_simp; try with_reducible rfl)
            simp only [Act.put, List.getElem_toArray, List.getElem_cons_zero, List.getElem_cons_succ, List.setIfInBounds_toArray, List.set_cons_zero, List.set_cons_succ]
            refine wpAnyH_take (i := 2) (v := ?v9310) rfl (by kernel_rfl) (by kernel_rfl) (by kernel_rfl) (fun _ _ _ h => h) (Or.inl ⟨by rfl, ?hy9310⟩) (by assumption) ?rest9310
            case hy9310 => (intro w hSw; (try dsimp only at hSw); go_simp; try with_reducible rfl)
            simp only [Act.put, List.getElem_toArray, List.getElem_cons_zero, List.getElem_cons_succ, List.setIfInBounds_toArray, List.set_cons_zero, List.set_cons_succ]
            refine wpAnyH_take (i := 3) (v := ?v9311) rfl (by kernel_rfl) (by kernel_rfl) (by kernel_rfl) (fun _ _ _ h => h) (Or.inl ⟨by rfl, ?hy9311⟩) (by assumption) ?rest9311
            case hy9311 => (intro w hSw; (try dsimp only at hSw); go_simp; try with_reducible rfl)
            simp only [Act.put, List.getElem_toArray, List.getElem_cons_zero, List.getElem_cons_succ, List.setIfInBounds_toArray, List.set_cons_zero, List.set_cons_succ]
            refine wpAnyH_take (i := 4) (v := ?v9312) rfl (by kernel_rfl) (by kernel_rfl) (by kernel_rfl) (fun _ _ _ h => h) (Or.inl ⟨by rfl, ?hy9312⟩) (by assumption) ?rest9312
            case hy9312 => (intro w hSw; (try dsimp only at hSw); go_simp; try with_reducible rfl)
            simp only [Act.put, List.getElem_toArray, List.getElem_cons_zero, List.getElem_cons_succ, List.setIfInBounds_toArray, List.set_cons_zero, List.set_cons_succ]
            refine wpAnyH_take (i := 5) (v := ?v9313) rfl (by kernel_rfl) (by kernel_rfl) (by kernel_rfl) (fun _ _ _ h => h) (Or.inl ⟨by rfl, ?hy9313⟩) (by assumption) ?rest9313
            case hy9313 => (intro w hSw; (try dsimp only at hSw); go_simp; try with_reducible rfl)
            simp only [Act.put, List.getElem_toArray, List.getElem_cons_zero, List.getElem_cons_succ, List.setIfInBounds_toArray, List.set_cons_zero, List.set_cons_succ]
            refine wpAnyH_take (i := 6) (v := ?v9314) rfl (by kernel_rfl) (by kernel_rfl) (by kernel_rfl) (fun _ _ _ h => h) (Or.inl ⟨by rfl, ?hy9314⟩) (by assumption) ?rest9314
            case hy9314 => (intro w hSw; (try dsimp only at hSw); go_simp; try with_reducible rfl)
            simp only [Act.put, List.getElem_toArray, List.getElem_cons_zero, List.getElem_cons_succ, List.setIfInBounds_toArray, List.set_cons_zero, List.set_cons_succ]
            refine wpAnyH_take (i := 7) (v := ?v9315) rfl (by kernel_rfl) (by kernel_rfl) (by kernel_rfl) (fun _ _ _ h => h) (Or.inl ⟨by rfl, ?hy9315⟩) (by assumption) ?rest9315
            case hy9315 => (intro w hSw; (try dsimp only at hSw); go_simp; try with_reducible rfl)
            simp only [Act.put, List.getElem_toArray, List.getElem_cons_zero, List.getElem_cons_succ, List.setIfInBounds_toArray, List.set_cons_zero, List.set_cons_succ]
            refine wpAnyH_take (i := 8) (v := ?v9316) rfl (by kernel_rfl) (by kernel_rfl) (by kernel_rfl) (fun _ _ _ h => h) (Or.inl ⟨by rfl, ?hy9316⟩) (by assumption) ?rest9316
            case hy9316 => (intro w hSw; (try dsimp only at hSw); go_simp; try with_reducible rfl)
            simp only [Act.put, List.getElem_toArray, List.getElem_cons_zero, List.getElem_cons_succ, List.setIfInBounds_toArray, List.set_cons_zero, List.set_cons_succ]
            refine wpAnyH_ready (rs := [9]) (by kernel_rfl) (by simp) ?_
            refine AllReadyH.cons rfl (fun K hK => ?_) AllReadyH.nil
            go_simp
            go_at_call 67
            refine (roomc_any y x _).mono ?_
            rintro e w7 ⟨rfl, hbq⟩
            dsimp only
            refine hK.out _ _ ?_ (fun hHeld => ?_)
            · (try dsimp only)
              exact keepS.out _ _ hHeld hbq
            clear hK K
            try simp only [Act.put, List.getElem_toArray, List.getElem_cons_zero, List.getElem_cons_succ, List.setIfInBounds_toArray, List.set_cons_zero, List.set_cons_succ]
            refine wpAnyH_take (i := 10) (v := ?v9317) rfl (by kernel_rfl) (by kernel_rfl) (by kernel_rfl) (fun _ _ _ h => h) (Or.inl ⟨by rfl, ?hy9317⟩) (by assumption) ?rest9317
            case hy9317 => (intro w hSw; (try dsimp only at hSw); go_simp; try with_reducible rfl)
            simp only [Act.put, List.getElem_toArray, List.getElem_cons_zero, List.getElem_cons_succ, List.setIfInBounds_toArray, List.set_cons_zero, List.set_cons_succ]
            refine wpAnyH_done (by kernel_rfl) ?_ _
            have hb10 := hbi8.trans ((hHeld.1).mono hbi8.size)
            have hord := ordI_older y x
            cases ho : older y x with
            | true =>
              have hneg : ordI y x < 0 := hord.2 ho
              replace ho := Lib.hid ho
              clear hord
              repeat' ((fail_if_success at_builtin); (first | go_skip | go_guarded | go_step))
              go_roundw
              case rel => exact ⟨i, i + 1, y, by omega, by omega, rfl, by go_num, hy.out, hb10, by have := hu.out; rw [ho.out, if_pos rfl] at this; exact this⟩
              case measure => simp [intOf]; omega
            | false =>
              have hneg : ¬ ordI y x < 0 := fun h => by rw [hord.1 h] at ho; cases ho
              replace ho := Lib.hid ho
              clear hord
              repeat' ((fail_if_success at_builtin); (first | go_skip | go_guarded | go_step))
              go_roundw
              case rel => exact ⟨k, i + 1, x, by omega, by omega, rfl, by go_num, hxk.out, hb10, by have := hu.out; rw [ho.out, if_neg (by simp)] at this; exact this⟩
              case measure => simp [intOf]; omega
          · have i1 : ¬ ((i : Int) < (n : Int)) := by omega
            rw [List.drop_of_length_le (by have := hn.out; omega), oldF] at hu
            have hb8 := hb9.trans (hbi.mono hb9.size)
            have hO8 : OwnL W0 wr (.slice (some ⟨g, 0, none⟩) n c) l' := hn.out ▸ hO.below hb8
            have C := delE_any l' g c n k W0 wr hn.out hO8 hk (by omega)
            have hfr8 := fun j => (hb8.frozen (p := ⟨cb, j, none⟩) lcb).trans (hfz j)
            have k2 : IntKind.i64.wrap ((k : Int) + 1) = (k : Int) + 1 := IntWalk.i64_in _ (by omega)
            have hlc : cb < wr.heap.size := by omega
            replace C := Lib.hid C
            replace hu := Lib.hid hu
            clear hcell hO8 hxk
            repeat' ((fail_if_success at_builtin); (first | go_skip | go_guarded | go_step))
            refine C.out.mono ?_
            rintro e w10 ⟨rfl, hO10, hg10⟩
            dsimp only
            have r0 := (grow_cell hg10 (p := ⟨cb, 0, none⟩) hlc (by show cb ≠ g; omega)).trans p0
            have r1 := (grow_cell hg10 (p := ⟨cb, 1, none⟩) hlc (by show cb ≠ g; omega)).trans q1
            have rf : ∀ j, w10.frozen? ⟨cb, j, none⟩ = false := fun j => (World.frozen?_of_block (hg10.block cb hlc (fun e => by injection e; omega))).trans (hfr8 j)
            have hl10 : (l'.eraseIdx k).length = n - 1 := by rw [List.length_eraseIdx_of_lt (by have := hn.out; omega), hn.out]
            have ho10 := hO10.1
            rw [hW0, hl10] at ho10
            have hkb10 : KeepBut B cb w w10 := hkb.trans ((KeepBut.below hb8 hBr).trans (KeepBut.grown hg10 hg0 (by omega)))
            have rf1 := rf 1
            replace hO10 := Lib.hid hO10
            replace hg10 := Lib.hid hg10
            replace hl10 := Lib.hid hl10
            replace ho10 := Lib.hid ho10
            replace hkb10 := Lib.hid hkb10
            replace rf := Lib.hid rf
            clear C hfr8 hb8
            repeat' ((fail_if_success at_builtin); (first | go_skip | go_guarded | go_step))
            go_roundw
            case rel =>
              refine ⟨l'.eraseIdx k, some ⟨g, 0, none⟩, n - 1, c, hl10.out.symm, ?_, ?_, ?_, ?_, hkb10.out.trans (KeepBut.setCell _), hok.erase k, by rw [hst.out, hu.out]⟩
              · exact ownsRow_setCell_below ho10.out (a := ⟨cb, 1, none⟩) hcb _
              · rw [World.cell?_setCell_other w10 _ _ _ (by simp)]; exact r0
              · exact World.cell?_setCell_same w10 _ _ r1
              · intro j; rw [World.frozen?_setCell]; exact rf.out j
            case measure =>
              have h1 : sizeAt cb (w10.setCell ⟨cb, 1, none⟩ (.slice (some ⟨g, 0, none⟩) (n - 1) c)) = n - 1 := by
                unfold sizeAt
                rw [World.cell?_setCell_same w10 _ _ r1]
              rw [h1, hmeas.out]
              omega

end Go.Proofs.YtpdlapdnjmoaoaaDoor
