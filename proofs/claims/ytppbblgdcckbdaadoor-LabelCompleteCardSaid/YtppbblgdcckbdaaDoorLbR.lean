/- Labels and requirements, as plain functions: the witness. No program in sight. -/
import Derived.Test.YtppbblgdcckbdaaDoorLbQ
namespace Go.Proofs.YtppbblgdcckbdaaDoor
def dgC (n : Nat) : UInt8 := UInt8.ofNat (48 + n)
def decF : Nat → Nat → List UInt8
  | 0, n => [dgC n]
  | k + 1, n => if n ≤ 9 then [dgC n] else decF k (n / 10) ++ [dgC (n % 10)]
def decL (n : Nat) : List UInt8 := decF n n
theorem dgC_nat {n : Nat} (h : n ≤ 9) : (dgC n).toNat = 48 + n := by
  unfold dgC
  rw [UInt8.toNat_ofNat']
  omega
theorem decF_succ (k n : Nat) : decF (k + 1) n = if n ≤ 9 then [dgC n] else decF k (n / 10) ++ [dgC (n % 10)] := rfl
theorem decF_fuel : ∀ (k j n : Nat), n ≤ k → n ≤ j → decF k n = decF j n
  | 0, 0, n, _, _ => rfl
  | 0, j + 1, n, h, _ => by rw [decF_succ, if_pos (by omega)]; rfl
  | k + 1, 0, n, _, h => by rw [decF_succ, if_pos (by omega)]; rfl
  | k + 1, j + 1, n, h1, h2 => by
    rw [decF_succ, decF_succ]
    split
    · rfl
    · rw [decF_fuel k j (n / 10) (by omega) (by omega)]
theorem decL_small {n : Nat} (h : n ≤ 9) : decL n = [dgC n] := by
  unfold decL
  cases n with
  | zero => rfl
  | succ n => rw [decF_succ, if_pos h]
theorem decL_big {n : Nat} (h : 9 < n) : decL n = decL (n / 10) ++ [dgC (n % 10)] := by
  unfold decL
  obtain ⟨k, rfl⟩ : ∃ k, n = k + 1 := ⟨n - 1, by omega⟩
  rw [decF_succ, if_neg (by omega), decF_fuel k ((k + 1) / 10) ((k + 1) / 10) (by omega) (Nat.le_refl _)]
theorem digF_snoc {c : UInt8} (hc : isDg c.toNat = true) : ∀ (l : List UInt8) (a v : Nat), digF l a = some v → digF (l ++ [c]) a = some (10 * v + (c.toNat - 48))
  | [], a, v, h => by
    cases h
    show (if isDg c.toNat then some (10 * a + (c.toNat - 48)) else none) = _
    rw [if_pos hc]
  | d :: l, a, v, h => by
    show (if isDg d.toNat then digF (l ++ [c]) (10 * a + (d.toNat - 48)) else none) = _
    have h' : (if isDg d.toNat then digF l (10 * a + (d.toNat - 48)) else none) = some v := h
    by_cases hd : isDg d.toNat = true
    · rw [if_pos hd] at h' ⊢
      exact digF_snoc hc l _ v h'
    · rw [if_neg hd] at h'; cases h'
theorem dgC_dg {n : Nat} (h : n ≤ 9) : isDg (dgC n).toNat = true := by
  rw [dgC_nat h, isDg_iff]
  omega
theorem decL_ind {P : Nat → Prop} (h1 : ∀ n, n ≤ 9 → P n) (h2 : ∀ n, 9 < n → P (n / 10) → P n) (n : Nat) : P n := by
  have : ∀ k n, n ≤ k → P n := by
    intro k
    induction k with
    | zero => intro n h; exact h1 n (by omega)
    | succ k ih =>
      intro n h
      by_cases h9 : n ≤ 9
      · exact h1 n h9
      · exact h2 n (by omega) (ih _ (by omega))
  exact this n n (Nat.le_refl _)
theorem decL_dig (n : Nat) : digF (decL n) 0 = some n := by
  refine decL_ind (P := fun n => digF (decL n) 0 = some n) (fun n h => ?_) (fun n h ih => ?_) n
  · rw [decL_small h]
    show (if isDg (dgC n).toNat then some (10 * 0 + ((dgC n).toNat - 48)) else none) = _
    rw [if_pos (dgC_dg h), dgC_nat h]
    congr 1; omega
  · rw [decL_big h, digF_snoc (dgC_dg (by omega)) _ _ _ ih, dgC_nat (by omega)]
    congr 1; omega
theorem decL_ne (n : Nat) : decL n ≠ [] := by
  by_cases h : n ≤ 9
  · rw [decL_small h]; simp
  · rw [decL_big (by omega)]; simp
theorem decL_head (n : Nat) : 0 < n → (decL n).head? ≠ some 48 := by
  refine decL_ind (P := fun n => 0 < n → (decL n).head? ≠ some 48) (fun n h hn he => ?_) (fun n h ih _ he => ?_) n
  · rw [decL_small h] at he
    have := congrArg UInt8.toNat (Option.some.inj he)
    rw [dgC_nat h] at this
    have h48 : (48 : UInt8).toNat = 48 := rfl
    omega
  · rw [decL_big h] at he
    refine ih (by omega) ?_
    cases hd : decL (n / 10) with
    | nil => exact absurd hd (decL_ne _)
    | cons c r => rw [hd] at he; exact he
theorem decL_len : ∀ (m n : Nat), n < 10 ^ (m + 1) → (decL n).length ≤ m + 1
  | 0, n, h => by rw [decL_small (by omega)]; simp
  | m + 1, n, h => by
    by_cases h9 : n ≤ 9
    · rw [decL_small h9]; simp
    · rw [decL_big (by omega), List.length_append]
      have := decL_len m (n / 10) (by rw [Nat.pow_succ] at h; omega)
      simp
      exact this
theorem decL_num {n : Nat} (h : n ≤ MAXN) : numL (decL n) = some n := by
  unfold numL
  have hl := decL_len 15 n (by
    have : (10 : Nat) ^ (15 + 1) = 10000000000000000 := by decide
    rw [this]
    have : MAXN = 9007199254740992 := rfl
    omega)
  rw [if_neg]
  · rw [decL_dig]
    dsimp only
    rw [if_pos h]
  · rintro (h1 | h1 | ⟨h1, h2⟩)
    · exact decL_ne n h1
    · omega
    · refine decL_head n ?_ h2
      rcases Nat.eq_zero_or_pos n with rfl | hp
      · rw [decL_small (by omega)] at h1; simp at h1
      · exact hp
theorem splitC_free : ∀ {l : List UInt8}, (∀ c ∈ l, isCo c.toNat = false) → splitC l = (l, [])
  | [], _ => rfl
  | c :: l, h => by
    unfold splitC
    rw [h c (List.mem_cons_self ..), splitC_free fun d hd => h d (List.mem_cons_of_mem _ hd)]
    rfl
theorem splitC_at {c : UInt8} (hc : isCo c.toNat = true) (x : List UInt8) : ∀ {l : List UInt8}, (∀ c ∈ l, isCo c.toNat = false) → splitC (l ++ c :: x) = (l, c :: x)
  | [], _ => by
    show (if isCo c.toNat then ([], c :: x) else _) = _
    rw [if_pos hc]
  | d :: l, h => by
    show (if isCo d.toNat then ([], d :: (l ++ c :: x)) else (d :: (splitC (l ++ c :: x)).1, (splitC (l ++ c :: x)).2)) = _
    rw [h d (List.mem_cons_self ..), splitC_at hc x fun d hd => h d (List.mem_cons_of_mem _ hd)]
    rfl
theorem name_ne {nm : List UInt8} (h : nameS nm = true) : nm ≠ [] := by
  intro e
  rw [e] at h
  cases h
theorem read_name {nm : List UInt8} (h : nameS nm = true) : readL nm = ⟨1, nm, 0⟩ := by
  rw [← parse_read]
  unfold parseL
  rw [if_pos h]
theorem read_num {nm : List UInt8} (h : nameS nm = true) {n : Nat} (hn : n ≤ MAXN) : readL (nm ++ 61 :: decL n) = ⟨5, nm, n⟩ := by
  have hc : ∀ c ∈ nm, isCo c.toNat = false := fun c hc => (name_char h c hc).1
  have hh : (nm ++ 61 :: decL n).head? ≠ some 33 := by
    intro he
    cases hnm : nm with
    | nil => exact name_ne h hnm
    | cons c r =>
      rw [hnm] at he
      have : c = 33 := Option.some.inj he
      exact (name_char h c (by rw [hnm]; exact List.mem_cons_self ..)).2 (by rw [this]; rfl)
  unfold readL
  rw [if_neg hh, splitC_at rfl _ hc]
  dsimp only
  unfold readC
  rw [if_neg (by simp), if_neg (by simp), if_neg (by simp), if_pos ⟨by
    have := decL_ne n
    cases hd : decL n with
    | nil => exact absurd hd this
    | cons c r => simp, rfl⟩]
  show partL 5 nm (decL n) = _
  unfold partL
  rw [decL_num hn]
  dsimp only
  rw [h]
  rfl
/-- a label that a permits, and b does not if possible -/
def chS (a b : Cs) : St :=
  if a.absent = true ∧ b.absent = false then none
  else if a.plain = true ∧ b.plain = false then some none
  else if a.lo ≤ a.hi ∧ (b.hi < b.lo ∨ a.lo < b.lo ∨ b.hi < a.lo) then some (some a.lo)
  else if a.lo ≤ a.hi ∧ b.hi < a.hi then some (some a.hi)
  else if a.absent = true then none
  else if a.plain = true then some none
  else some (some a.lo)
def chL (nm : List UInt8) : St → List UInt8
  | none => []
  | some none => nm
  | some (some m) => nm ++ 61 :: decL m
theorem chS_in {a b : Cs} (h : possC a = true) : inC a (chS a b) := by
  unfold possC at h
  simp only [Bool.or_eq_true, decide_eq_true_eq] at h
  unfold chS inC
  split
  · rename_i h1
    exact ⟨fun _ => h1.1, fun e => (by cases e), fun m e => by cases e⟩
  · split
    · rename_i h1
      exact ⟨fun e => (by cases e), fun _ => h1.1, fun m e => by cases e⟩
    · split
      · rename_i h1
        exact ⟨fun e => (by cases e), fun e => (by cases e), fun m e => by cases e; exact ⟨Nat.le_refl _, h1.1⟩⟩
      · split
        · rename_i h1
          exact ⟨fun e => (by cases e), fun e => (by cases e), fun m e => by cases e; exact ⟨h1.1, Nat.le_refl _⟩⟩
        · split
          · rename_i h1
            exact ⟨fun _ => h1, fun e => (by cases e), fun m e => by cases e⟩
          · split
            · rename_i h1
              exact ⟨fun e => (by cases e), fun _ => h1, fun m e => by cases e⟩
            · rename_i n1 n2
              refine ⟨fun e => (by cases e), fun e => (by cases e), fun m e => by
                cases e
                rcases h with h | h | h
                · exact absurd h n1
                · exact absurd h n2
                · exact ⟨Nat.le_refl _, h⟩⟩
theorem chS_out {a b : Cs} (h : withC a b = false) : ¬ inC b (chS a b) := by
  rintro ⟨g1, g2, g3⟩
  have hw : withC a b = true := by
    unfold withC
    simp only [Bool.and_eq_true, Bool.or_eq_true, decide_eq_true_eq, Bool.not_eq_true']
    unfold chS at g1 g2 g3
    by_cases c1 : a.absent = true ∧ b.absent = false
    · rw [if_pos c1] at g1
      rw [g1 rfl] at c1; cases c1.2
    · rw [if_neg c1] at g1 g2 g3
      by_cases c2 : a.plain = true ∧ b.plain = false
      · rw [if_pos c2] at g2
        rw [g2 rfl] at c2; cases c2.2
      · rw [if_neg c2] at g1 g2 g3
        refine ⟨?_, ?_, ?_⟩
        · cases ha : a.absent with
          | false => exact .inl rfl
          | true =>
            cases hb : b.absent with
            | false => exact absurd ⟨ha, hb⟩ c1
            | true => exact .inr rfl
        · cases ha : a.plain with
          | false => exact .inl rfl
          | true =>
            cases hb : b.plain with
            | false => exact absurd ⟨ha, hb⟩ c2
            | true => exact .inr rfl
        · by_cases c3 : a.lo ≤ a.hi ∧ (b.hi < b.lo ∨ a.lo < b.lo ∨ b.hi < a.lo)
          · rw [if_pos c3] at g3
            have := g3 _ rfl
            omega
          · rw [if_neg c3] at g3
            by_cases c4 : a.lo ≤ a.hi ∧ b.hi < a.hi
            · rw [if_pos c4] at g3
              have := g3 _ rfl
              omega
            · omega
  rw [hw] at h; cases h
theorem chS_valid {a b : Cs} (hh : a.hi ≤ MAXN) (h : possC a = true) : Vst (chS a b) := fun m e => by
  have := (chS_in (b := b) h).2.2 m e
  omega
/-- the chosen label as a part -/
def stP (nm : List UInt8) : St → Prt
  | none => bad
  | some none => ⟨1, nm, 0⟩
  | some (some m) => ⟨5, nm, m⟩
theorem lab_ch {nm : List UInt8} (h : nameS nm = true) {s : St} (hv : Vst s) : labL (chL nm s) = stP nm s := by
  rcases s with _ | _ | m
  · rfl
  · unfold labL chL
    rw [read_name h]
    rfl
  · unfold labL chL
    rw [read_num h (hv m rfl)]
    rfl
theorem ch_nil {nm : List UInt8} (h : nameS nm = true) {s : St} : chL nm s = [] ↔ s = none := by
  rcases s with _ | _ | m
  · exact ⟨fun _ => rfl, fun _ => rfl⟩
  · exact ⟨fun e => absurd e (name_ne h), fun e => by cases e⟩
  · refine ⟨fun e => ?_, fun e => by cases e⟩
    unfold chL at e
    simp at e
/-- labels chosen for names -/
def witL (f : List UInt8 → St) (names : List (List UInt8)) : List (List UInt8) := (names.map fun nm => chL nm (f nm)).filter (· ≠ [])
theorem wit_mem {f : List UInt8 → St} {names : List (List UInt8)} (hn : ∀ nm ∈ names, nameS nm = true) {s : List UInt8} : s ∈ witL f names ↔ ∃ nm ∈ names, f nm ≠ none ∧ s = chL nm (f nm) := by
  unfold witL
  rw [List.mem_filter, List.mem_map]
  constructor
  · rintro ⟨⟨nm, h1, rfl⟩, h2⟩
    refine ⟨nm, h1, fun e => ?_, rfl⟩
    rw [(ch_nil (hn nm h1)).2 e] at h2
    simp at h2
  · rintro ⟨nm, h1, h2, rfl⟩
    refine ⟨⟨nm, h1, rfl⟩, ?_⟩
    simp only [ne_eq, decide_eq_true_eq]
    exact fun e => h2 ((ch_nil (hn nm h1)).1 e)
theorem wit_sat {f : List UInt8 → St} {names : List (List UInt8)} (hn : ∀ nm ∈ names, nameS nm = true) (hv : ∀ nm ∈ names, Vst (f nm)) {t : Prt} (ht : Fit t) (hm : t.name ∈ names) : satL (witL f names) t = true ↔ okSt t (f t.name) := by
  have hth : thereL (witL f names) t.name = true ↔ f t.name ≠ none := by
    unfold thereL
    rw [List.any_eq_true]
    constructor
    · rintro ⟨s, hs, he⟩
      obtain ⟨nm, h1, h2, rfl⟩ := (wit_mem hn).1 hs
      rw [lab_ch (hn nm h1) (hv nm h1)] at he
      have : nm = t.name := by
        rcases hf : f nm with _ | _ | m
        · exact absurd hf h2
        · rw [hf] at he; simpa [stP] using he
        · rw [hf] at he; simpa [stP] using he
      rw [← this]; exact h2
    · intro h
      refine ⟨_, (wit_mem hn).2 ⟨t.name, hm, h, rfl⟩, ?_⟩
      rw [lab_ch (hn _ hm) (hv _ hm)]
      rcases hf : f t.name with _ | _ | m
      · exact absurd hf h
      · simp [stP]
      · simp [stP]
  obtain ⟨h1, h5, _, _⟩ := ht
  unfold satL okSt
  rw [if_neg (by omega)]
  by_cases e1 : t.form = 1
  · rw [if_pos e1, if_pos e1, hth]
  · rw [if_neg e1, if_neg e1]
    by_cases e2 : t.form = 2
    · rw [if_pos e2, if_pos e2, Bool.not_eq_true', ← Bool.not_eq_true, hth]
      simp
    · rw [if_neg e2, if_neg e2]
      unfold metL
      rw [List.any_eq_true]
      constructor
      · rintro ⟨s, hs, he⟩
        obtain ⟨nm, g1, g2, rfl⟩ := (wit_mem hn).1 hs
        unfold hitM at he
        rw [lab_ch (hn nm g1) (hv nm g1)] at he
        rcases hf : f nm with _ | _ | m
        · exact absurd hf g2
        · rw [hf] at he; simp [stP] at he
        · rw [hf] at he
          simp [stP] at he
          obtain ⟨rfl, _, h4⟩ := he
          exact ⟨m, hf, h4⟩
      · rintro ⟨m, hf, hh⟩
        refine ⟨_, (wit_mem hn).2 ⟨t.name, hm, by rw [hf]; simp, rfl⟩, ?_⟩
        unfold hitM
        rw [lab_ch (hn _ hm) (hv _ hm), hf]
        simp [stP, hh]
        omega
def namesOk (names : List (List UInt8)) (a b : List Prt) : Prop := (∀ nm ∈ names, nameS nm = true) ∧ (∀ t ∈ a, Fit t → t.name ∈ names) ∧ ∀ t ∈ b, Fit t → t.name ∈ names
def wch (a b : List Prt) (nm : List UInt8) : St := chS (permC a nm) (permC b nm)
/-- requirements that are not implied are told apart -/
theorem complete {a b names : List (List UInt8)} (hn : namesOk names (prts a) (prts b)) (h : impA (prts a) (prts b) = false) :
    satsL (witL (wch (prts a) (prts b)) names) a = true ∧ satsL (witL (wch (prts a) (prts b)) names) b = false := by
  obtain ⟨n1, n2, n3⟩ := hn
  rw [imp_eq (prts_fit a) (prts_fit b)] at h
  unfold impR at h
  rw [Bool.or_eq_false_iff, Bool.not_eq_false'] at h
  obtain ⟨hc, hb⟩ := h
  have hp := (canR_iff (prts_fit a)).1 hc
  have hposs : ∀ nm, possC (permC (prts a) nm) = true := fun nm => by
    obtain ⟨s, hv, hs⟩ := hp.any nm
    exact (possC_in (permC_hi _ _)).2 ⟨s, hv, (permC_in hp.good hv).2 hs⟩
  have hv : ∀ nm ∈ names, Vst (wch (prts a) (prts b) nm) := fun nm _ => chS_valid (permC_hi _ _) (hposs nm)
  have hv2 : ∀ nm, Vst (wch (prts a) (prts b) nm) := fun nm => chS_valid (permC_hi _ _) (hposs nm)
  refine ⟨?_, ?_⟩
  · rw [sats_all]
    intro t ht
    have hf := hp.good t ht
    refine (wit_sat n1 hv hf (n2 t ht hf)).2 ?_
    exact (permC_in hp.good (hv2 _)).1 (chS_in (hposs t.name)) t ht rfl
  · rw [← Bool.not_eq_true, sats_all]
    intro hall
    have hg : good (prts b) := fun x hx => by
      rcases prts_fit b x hx with rfl | hf
      · have := hall _ hx; rw [sat_bad] at this; cases this
      · exact hf
    rw [List.all_eq_false] at hb
    obtain ⟨t, ht, htw⟩ := hb
    have hw : withC (permC (prts a) t.name) (permC (prts b) t.name) = false := by
      have h0 : t.form ≠ 0 := by have := (hg t ht).lo; omega
      rw [decide_eq_true h0, Bool.true_and] at htw
      simpa using htw
    refine chS_out hw ((permC_in hg (hv2 t.name)).2 fun y hy hyn => ?_)
    have := (wit_sat n1 hv (hg y hy) (n3 y hy (hg y hy))).1 (hall y hy)
    rw [hyn] at this
    exact this
end Go.Proofs.YtppbblgdcckbdaaDoor
