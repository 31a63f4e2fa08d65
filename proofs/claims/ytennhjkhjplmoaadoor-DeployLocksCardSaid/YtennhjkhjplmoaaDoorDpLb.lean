/- Deploy: bounds. -/
import Derived.Test.YtennhjkhjplmoaaDoorDpLv
import Derived.Test.YtennhjkhjplmoaaDoorDpS
namespace Go.Proofs.YtennhjkhjplmoaaDoor
open Go.RowKit
structure EW (l : List Env) : Prop where
  len : l.length ≤ 1000000
  each : ∀ x ∈ l, EnvW x
theorem EW.envs {w : World} {A : Option Addr} {n c : Nat} {l : List Env} (h : EW l) (hr : RSlice rEnv 5 w (fun b => b < w.heap.size) A n c l) : Envs w A n c l := ⟨hr, h.len, h.each⟩
theorem small_EW {l : List Env} (h : smallL l = true) : EW l := by
  obtain ⟨h1, h2⟩ := small_each h
  exact ⟨by omega, fun x hx => by obtain ⟨a, b, d⟩ := h2 x hx; exact ⟨by omega, by omega, by omega⟩⟩
theorem EW.set {l : List Env} (h : EW l) (k : Nat) {y : Env} (hy : EnvW y) : EW (l.set k y) := by
  refine ⟨by rw [List.length_set]; exact h.len, fun x hx => ?_⟩
  rcases List.mem_or_eq_of_mem_set hx with h1 | rfl
  · exact h.each x h1
  · exact hy
theorem goL_small : ∀ {l : List Env}, (∀ x ∈ l, x.waiting.length ≤ 20) → (goL l).length ≤ l.length * 21
  | [], _ => Nat.le_refl _
  | x :: l, h => by
    have h1 := h x (List.mem_cons_self ..)
    have h2 := goL_small (l := l) (fun y hy => h y (List.mem_cons_of_mem _ hy))
    have h3 := goE_len x
    show (goE x ++ goL l).length ≤ _
    rw [List.length_append, List.length_cons]
    omega
theorem small_b {l : List Env} (h : smallL l = true) : (goL l).length ≤ 1000000 ∧ (refsL l).length ≤ 1000000 ∧ (∀ x ∈ l, x.waiting.length ≤ 999999) ∧ ∀ x ∈ l, x.history.length ≤ 999999 := by
  obtain ⟨h1, h2⟩ := small_each h
  have h3 := goL_small (fun x hx => (h2 x hx).2.1)
  have h4 := (goL_perm l).length_eq
  exact ⟨by omega, by omega, fun x hx => by have := (h2 x hx).2.1; omega, fun x hx => by have := (h2 x hx).2.2; omega⟩
theorem ew_req {l : List Env} {s : ByteArray} {r : Ref} (h : smallL l = true) (hs : s.size ≤ 200) : EW (reqL l s r).1 := by
  have hE := small_EW h
  obtain ⟨h1, h2⟩ := small_each h
  unfold reqL
  split
  · exact hE
  · split
    · exact hE
    · split
      · rename_i x hx
        obtain ⟨a, b, c⟩ := h2 x (List.mem_of_getElem? hx)
        exact hE.set _ ⟨by show x.name.size ≤ _; omega, by show (x.waiting ++ [r]).length ≤ _; rw [List.length_append]; simp; omega, by show x.history.length ≤ _; omega⟩
      · refine ⟨?_, fun x hx => ?_⟩
        · dsimp only
          rw [List.length_append, List.length_cons, List.length_take, List.length_drop]
          omega
        · rcases List.mem_append.1 hx with h3 | h3
          · exact hE.each x (List.mem_of_mem_take h3)
          · rcases List.mem_cons.1 h3 with rfl | h3
            · exact ⟨by show s.size ≤ _; omega, by simp, by simp⟩
            · exact hE.each x (List.mem_of_mem_drop h3)
theorem ew_lock {l : List Env} {s : ByteArray} {r : Ref} (h : smallL l = true) : EW (lockL l s r).1 := by
  have hE := small_EW h
  unfold lockL
  split
  · exact hE
  · rename_i x hx
    have hx2 := hE.each x (List.mem_of_getElem? hx)
    split
    · exact hE
    · split
      · exact hE
      · split
        · exact hE
        · exact hE.set _ ⟨hx2.name, by show (x.waiting.drop 1).length ≤ _; rw [List.length_drop]; have := hx2.wait; omega, hx2.hist⟩
theorem ew_fin {l : List Env} {d : Dep} (h : smallL l = true) : EW (finL l d).1 := by
  have hE := small_EW h
  obtain ⟨h1, h2⟩ := small_each h
  unfold finL
  split
  · exact hE
  · split
    · exact hE
    · split
      · exact hE
      · split
        · exact hE
        · rename_i x hx
          obtain ⟨a, b, c⟩ := h2 x (List.mem_of_getElem? hx)
          have hx2 := hE.each x (List.mem_of_getElem? hx)
          refine hE.set _ ⟨hx2.name, hx2.wait, ?_⟩
          show (capH (x.history ++ [d])).length ≤ _
          unfold capH
          split
          · rw [List.length_drop, List.length_append]; simp; omega
          · rw [List.length_append]; simp; omega
theorem ew_ab {l : List Env} {r : Ref} (h : smallL l = true) : EW (abL l r) := by
  have hE := small_EW h
  refine ⟨by unfold abL; rw [List.length_map]; exact hE.len, fun x hx => ?_⟩
  obtain ⟨y, hy, rfl⟩ := List.mem_map.1 hx
  have h2 := hE.each y hy
  exact ⟨h2.name, Nat.le_trans (List.length_filter_le _ _) h2.wait, h2.hist⟩
end Go.Proofs.YtennhjkhjplmoaaDoor
