/- Cache: the law Full: what Save does with a full cache. No program in sight. -/
import Derived.Test.YtpdlapdnjmoaoaaDoorCaA
namespace Go.Proofs.YtpdlapdnjmoaoaaDoor
def digC (n : Nat) : UInt8 := UInt8.ofNat (48 + n % 10)
def keyK (i : Nat) : ByteArray := ⟨#[107, digC (i / 1000), digC (i / 100), digC (i / 10), digC i]⟩
def entK (i : Nat) : Ent := entS (keyK i) 0
def fullK (n : Nat) : List Ent := (List.range n).map entK
theorem digC_nat (n : Nat) : (digC n).toNat = 48 + n % 10 := by
  unfold digC
  rw [UInt8.toNat_ofNat']
  omega
theorem digC_inj {a b : Nat} (h : digC a = digC b) : a % 10 = b % 10 := by
  have := congrArg UInt8.toNat h
  rw [digC_nat, digC_nat] at this
  omega
theorem keyK_inj {i j : Nat} (hi : i < 10000) (hj : j < 10000) (h : keyK i = keyK j) : i = j := by
  unfold keyK at h
  injection h with h
  have h2 := congrArg Array.toList h
  simp only [List.cons.injEq] at h2
  obtain ⟨-, h3, h4, h5, h6, -⟩ := h2
  have := digC_inj h3; have := digC_inj h4; have := digC_inj h5; have := digC_inj h6
  omega
theorem hit_keys {s : Scp} {k : ByteArray} {x : Ent} (h : hitE s k x = true) : x.key = k := by
  unfold hitE at h
  rw [Bool.and_eq_true] at h
  exact toList_inj (by simpa using h.2)
theorem fullK_len (n : Nat) : (fullK n).length = n := by simp [fullK]
theorem fullK_at (n i : Nat) (h : i < n) : (fullK n)[i]? = some (entK i) := by
  unfold fullK
  rw [List.getElem?_map, List.getElem?_range h]
  rfl
theorem fullK_mem {n : Nat} {x : Ent} (h : x ∈ fullK n) : ∃ i, i < n ∧ x = entK i := by
  unfold fullK at h
  obtain ⟨i, hi, rfl⟩ := List.mem_map.1 h
  exact ⟨i, List.mem_range.1 hi, rfl⟩
theorem entK_right (i : Nat) : rightS (entK i) = true := by
  have h1 : scopeS (⟨⟨#[112]⟩, 2, ⟨#[109, 97, 105, 110]⟩⟩ : Scp) = true := by kernel_rfl
  have h2 : (entK i).sc = (⟨⟨#[112]⟩, 2, ⟨#[109, 97, 105, 110]⟩⟩ : Scp) := rfl
  have h3 : (entK i).key.size = 5 := rfl
  unfold rightS namedS
  rw [h2, h1, h3]
  rfl
theorem fullK_good (n : Nat) (hn : n ≤ 1024) : GoodTo (fullK n) (fullK n).length := by
  intro j x hj hx
  rw [fullK_len] at hj
  rw [fullK_at n j hj] at hx
  cases hx
  unfold goodAt
  rw [entK_right]
  have h1 : ((fullK n).take j).any (hitE (entK j).sc (entK j).key) = false := by
    rw [List.any_eq_false]
    intro y hy ht
    obtain ⟨i, hi, hyi⟩ := List.getElem_of_mem hy
    rw [List.length_take] at hi
    rw [List.getElem_take] at hyi
    have h4 : (fullK n)[i]? = some (entK i) := fullK_at n i (by omega)
    have h5 := List.getElem?_eq_getElem (l := fullK n) (i := i) (by rw [fullK_len]; omega)
    rw [h4, hyi] at h5
    cases h5
    have h6 : keyK i = keyK j := hit_keys ht
    have := keyK_inj (by omega) (by omega) h6
    omega
  rw [h1]
  have h2 : prevOk (fullK n) j (entK j) = true := by
    unfold prevOk
    cases j with
    | zero => rfl
    | succ j =>
      dsimp only
      rw [fullK_at n j (by omega)]
      rfl
  rw [h2]
  rfl
theorem usedF_zero : ∀ (l : List Ent), (∀ x ∈ l, x.size = 0) → usedF l 0 = 0
  | [], _ => rfl
  | x :: l, h => by
    unfold usedF
    rw [h x (List.mem_cons_self ..)]
    exact usedF_zero l fun y hy => h y (List.mem_cons_of_mem _ hy)
theorem fullK_used (n : Nat) : usedS (fullK n) = 0 := usedF_zero _ fun x hx => by
  obtain ⟨i, _, rfl⟩ := fullK_mem hx
  rfl
theorem fullK_valid (n : Nat) (hn : n ≤ 1024) : validS 100 (fullK n) = true := by
  unfold validS
  rw [allGood_of (fullK_good n hn), fullK_used, fullK_len, decide_eq_true hn]
  rfl
def newK : Ent := entS ⟨#[110, 101, 119]⟩ 1
theorem posE_none {f : Ent → Bool} : ∀ {l : List Ent}, (∀ x ∈ l, f x = false) → posE f l = l.length
  | [], _ => rfl
  | x :: l, h => by
    unfold posE
    rw [h x (List.mem_cons_self ..)]
    simp [posE_none fun y hy => h y (List.mem_cons_of_mem _ hy)]
theorem fullK_find (n : Nat) : findI newK.sc newK.key (fullK n) = -1 := by
  unfold findI
  rw [posE_none, if_neg (by omega)]
  intro x hx
  obtain ⟨i, _, rfl⟩ := fullK_mem hx
  cases h : hitE newK.sc newK.key (entK i)
  · rfl
  · have := congrArg ByteArray.size (hit_keys h)
    exact absurd (show (5 : Nat) = 3 from this) (by decide)
theorem fullK_last (n : Nat) : lastOk (fullK n) 5 = true := by
  unfold lastOk
  cases h : (fullK n).getLast? with
  | none => rfl
  | some x =>
    obtain ⟨i, _, rfl⟩ := fullK_mem (List.mem_of_getLast? h)
    rfl
theorem newK_named : namedS newK = true := by kernel_rfl
theorem fullK_saveE (n : Nat) (hn : n ≤ 1024) : saveE 100 (fullK n) newK 5 = 0 := by
  unfold saveE
  rw [fullK_valid n hn, newK_named, fullK_last, fullK_find]
  rfl
theorem oldF_same (x : Ent) : ∀ (l : List Ent) (k i : Nat), (∀ y ∈ l, older y x = false) → oldF x k i l = k
  | [], _, _, _ => rfl
  | y :: l, k, i, h => by
    unfold oldF
    rw [h y (List.mem_cons_self ..)]
    exact oldF_same x l k (i + 1) fun z hz => h z (List.mem_cons_of_mem _ hz)
theorem fullK_old (n : Nat) : oldS (fullK n) = 0 := by
  cases n with
  | zero => rfl
  | succ n =>
    have e : fullK (n + 1) = entK 0 :: (List.range n).map fun i => entK (i + 1) := by
      unfold fullK
      rw [List.range_succ_eq_map]
      simp
    rw [e]
    unfold oldS
    refine oldF_same _ _ _ _ fun y hy => ?_
    obtain ⟨i, _, rfl⟩ := List.mem_map.1 hy
    rfl
theorem fullK_room_few (n : Nat) (hn : n < 1024) : roomS 100 1 (fullK n) = fullK n := by
  have hf : fullS 100 1 (fullK n) = false := by
    unfold fullS
    rw [fullK_len, fullK_used, decide_eq_false (by omega)]
    rfl
  unfold roomS roomF
  rw [hf]
  rfl
theorem fullK_room (N : Nat) (hN : N = 1024) : roomS 100 1 (fullK N) = (fullK N).drop 1 := by
  have hf : fullS 100 1 (fullK N) = true := by
    unfold fullS
    rw [fullK_len, decide_eq_true (by omega : 1024 ≤ N), Bool.true_or]
  have hg : fullS 100 1 ((fullK N).drop 1) = false := by
    have hu : usedS ((fullK N).drop 1) = 0 := usedF_zero _ fun x hx => by
      obtain ⟨i, _, rfl⟩ := fullK_mem (List.mem_of_mem_drop hx)
      rfl
    unfold fullS
    rw [List.length_drop, fullK_len, hu, decide_eq_false (by omega : ¬ 1024 ≤ N - 1)]
    rfl
  unfold roomS
  rw [fullK_len]
  unfold roomF
  rw [hf, fullK_old]
  simp only [if_true]
  have he : (fullK N).eraseIdx 0 = (fullK N).drop 1 := by
    cases h : fullK N with
    | nil => rfl
    | cons x l => rfl
  rw [he]
  obtain ⟨M, rfl⟩ : ∃ M, N = M + 1 := ⟨N - 1, by omega⟩
  unfold roomF
  rw [hg]
  rfl
theorem fullK_saveL_few (n : Nat) (hn : n < 1024) : saveL 100 (fullK n) newK 5 = fullK n ++ [stamp newK 5] := by
  unfold saveL
  rw [if_pos (fullK_saveE n (by omega)), show newK.size = 1 from rfl, fullK_room_few n hn]
theorem fullK_saveL (N : Nat) (hN : N = 1024) : saveL 100 (fullK N) newK 5 = (fullK N).drop 1 ++ [stamp newK 5] := by
  unfold saveL
  rw [if_pos (fullK_saveE N (by omega)), show newK.size = 1 from rfl, fullK_room N hN]
theorem fullK_fit (n : Nat) : ∀ y ∈ fullK n, y.fit := fun y h => by
  obtain ⟨i, _, rfl⟩ := fullK_mem h
  exact ⟨show (1 : Nat) ≤ 1000000 by decide, show (4 : Nat) ≤ 1000000 by decide, show (5 : Nat) ≤ 1000000 by decide, show I64 2 from ⟨by decide, by decide⟩, show I64 0 from ⟨by decide, by decide⟩, show I64 0 from ⟨by decide, by decide⟩, show I64 0 from ⟨by decide, by decide⟩⟩
theorem newK_fit : newK.fit := by constructor <;> first | decide | exact ⟨by decide, by decide⟩
theorem fullK_succ (n : Nat) : fullK (n + 1) = fullK n ++ [entK n] := by
  unfold fullK
  rw [List.range_succ, List.map_append]
  rfl
end Go.Proofs.YtpdlapdnjmoaoaaDoor
