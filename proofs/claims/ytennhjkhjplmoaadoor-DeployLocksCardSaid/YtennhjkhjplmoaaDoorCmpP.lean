/- The natural order of strings, as plain functions: no program. -/
import Derived.Test.YtennhjkhjplmoaaDoorIdP
import Derived.Lib.TrimByte
namespace Go.Proofs.YtennhjkhjplmoaaDoor
def isDg (c : Nat) : Bool := decide (48 ≤ c) && decide (c ≤ 57)
/-- how many digits stand at the beginning -/
def runN : List UInt8 → Nat
  | [] => 0
  | c :: l => if isDg c.toNat then runN l + 1 else 0
def stripL (l : List UInt8) : List UInt8 := Lib.trimLeftB l 48
def natC (a b : Nat) : Int := if a < b then -1 else if b < a then 1 else 0
/-- how two runs are ordered -/
def numC (a b : List UInt8) : Int := if (stripL a).length ≠ (stripL b).length then natC (stripL a).length (stripL b).length else if stripL a ≠ stripL b then (if Go.Op.bytesLess (stripL a) (stripL b) then -1 else 1) else natC a.length b.length
def cmpF : Nat → List UInt8 → List UInt8 → Int
  | 0, _, _ => 0
  | _ + 1, [], [] => 0
  | _ + 1, [], _ :: _ => -1
  | _ + 1, _ :: _, [] => 1
  | k + 1, x :: a, y :: b => if isDg x.toNat && isDg y.toNat then (if numC ((x :: a).take (runN (x :: a))) ((y :: b).take (runN (y :: b))) ≠ 0 then numC ((x :: a).take (runN (x :: a))) ((y :: b).take (runN (y :: b))) else cmpF k ((x :: a).drop (runN (x :: a))) ((y :: b).drop (runN (y :: b)))) else if x ≠ y then natC x.toNat y.toNat else cmpF k a b
/-- the natural order: -1, 0 or 1 -/
def cmpN (a b : List UInt8) : Int := cmpF (a.length + 1) a b
theorem runN_le : ∀ l : List UInt8, runN l ≤ l.length
  | [] => Nat.le_refl _
  | c :: l => by
    have := runN_le l
    unfold runN
    split <;> simp <;> omega
theorem runN_pos {c : UInt8} {l : List UInt8} (h : isDg c.toNat = true) : 0 < runN (c :: l) := by
  unfold runN
  rw [if_pos h]
  omega
theorem runN_none {c : UInt8} {l : List UInt8} (h : isDg c.toNat = false) : runN (c :: l) = 0 := by
  unfold runN
  rw [if_neg (by simp [h])]
/-- the fuel does not matter -/
theorem cmpF_fuel : ∀ (k j : Nat) (a b : List UInt8), a.length < k → a.length < j → cmpF k a b = cmpF j a b
  | 0, _, _, _, h, _ => absurd h (Nat.not_lt_zero _)
  | _ + 1, 0, _, _, _, h => absurd h (Nat.not_lt_zero _)
  | k + 1, j + 1, [], [], _, _ => rfl
  | k + 1, j + 1, [], _ :: _, _, _ => rfl
  | k + 1, j + 1, _ :: _, [], _, _ => rfl
  | k + 1, j + 1, x :: a, y :: b, hk, hj => by
    simp only [List.length_cons] at hk hj
    unfold cmpF
    by_cases hd : (isDg x.toNat && isDg y.toNat) = true
    · rw [if_pos hd, if_pos hd]
      have hx : isDg x.toNat = true := (Bool.and_eq_true_iff.1 hd).1
      have h1 := runN_pos (l := a) hx
      have h2 := runN_le (x :: a)
      simp only [List.length_cons] at h2
      rw [cmpF_fuel k j _ _ (by simp only [List.length_drop, List.length_cons]; omega) (by simp only [List.length_drop, List.length_cons]; omega)]
    · rw [if_neg hd, if_neg hd, cmpF_fuel k j a b (by omega) (by omega)]
theorem cmpN_nil : cmpN [] [] = 0 := rfl
theorem cmpN_short {y : UInt8} {b : List UInt8} : cmpN [] (y :: b) = -1 := rfl
theorem cmpN_long {x : UInt8} {a : List UInt8} : cmpN (x :: a) [] = 1 := rfl
theorem cmpN_num {x y : UInt8} {a b : List UInt8} (hx : isDg x.toNat = true) (hy : isDg y.toNat = true) (h : numC ((x :: a).take (runN (x :: a))) ((y :: b).take (runN (y :: b))) ≠ 0) : cmpN (x :: a) (y :: b) = numC ((x :: a).take (runN (x :: a))) ((y :: b).take (runN (y :: b))) := by
  unfold cmpN cmpF
  rw [if_pos (by rw [hx, hy]; rfl), if_pos h]
theorem cmpN_nums {x y : UInt8} {a b : List UInt8} (hx : isDg x.toNat = true) (hy : isDg y.toNat = true) (h : numC ((x :: a).take (runN (x :: a))) ((y :: b).take (runN (y :: b))) = 0) : cmpN (x :: a) (y :: b) = cmpN ((x :: a).drop (runN (x :: a))) ((y :: b).drop (runN (y :: b))) := by
  unfold cmpN
  rw [cmpF, if_pos (by rw [hx, hy]; rfl), if_neg (by rw [h]; simp)]
  have h1 := runN_pos (l := a) hx
  have h2 := runN_le (x :: a)
  simp only [List.length_cons] at h2
  exact cmpF_fuel _ _ _ _ (by simp only [List.length_drop, List.length_cons]; omega) (by omega)
theorem cmpN_byte {x y : UInt8} {a b : List UInt8} (hd : (isDg x.toNat && isDg y.toNat) = false) (h : x ≠ y) : cmpN (x :: a) (y :: b) = natC x.toNat y.toNat := by
  unfold cmpN cmpF
  rw [if_neg (by simp [hd]), if_pos h]
theorem cmpN_bytes {x : UInt8} {a b : List UInt8} (hd : isDg x.toNat = false) : cmpN (x :: a) (x :: b) = cmpN a b := by
  unfold cmpN
  rw [cmpF, if_neg (by simp [hd]), if_neg (by simp)]
  exact cmpF_fuel _ _ _ _ (by simp only [List.length_cons]; omega) (by omega)
/-- the lexicographic order of numbers -/
def lexC : List Nat → List Nat → Int
  | [], [] => 0
  | [], _ :: _ => -1
  | _ :: _, [] => 1
  | x :: a, y :: b => if x < y then -1 else if y < x then 1 else lexC a b
theorem lexC_zero : ∀ {a b : List Nat}, lexC a b = 0 ↔ a = b
  | [], [] => by simp [lexC]
  | [], _ :: _ => by simp [lexC]
  | _ :: _, [] => by simp [lexC]
  | x :: a, y :: b => by
    unfold lexC
    by_cases h1 : x < y
    · rw [if_pos h1]; simp; omega
    · by_cases h2 : y < x
      · rw [if_neg h1, if_pos h2]; simp; omega
      · rw [if_neg h1, if_neg h2, lexC_zero]
        have : x = y := by omega
        simp [this]
theorem lexC_swap : ∀ (a b : List Nat), lexC b a = - lexC a b
  | [], [] => rfl
  | [], _ :: _ => rfl
  | _ :: _, [] => rfl
  | x :: a, y :: b => by
    unfold lexC
    by_cases h1 : x < y
    · rw [if_pos h1, if_neg (by omega), if_pos h1]; rfl
    · by_cases h2 : y < x
      · rw [if_pos h2, if_neg h1, if_pos h2]
      · rw [if_neg h1, if_neg h2, if_neg h1, if_neg h2, lexC_swap a b]
theorem lexC_trans : ∀ {a b c : List Nat}, lexC a b < 0 → lexC b c < 0 → lexC a c < 0
  | [], [], _, h, _ => by simp [lexC] at h
  | [], _ :: _, [], _, h => by simp [lexC] at h
  | [], _ :: _, _ :: _, _, _ => by simp [lexC]
  | _ :: _, [], _, h, _ => by simp [lexC] at h
  | _ :: _, _ :: _, [], _, h => by simp [lexC] at h
  | x :: a, y :: b, z :: c, h, h' => by
    unfold lexC at h h' ⊢
    by_cases h1 : x < y
    · by_cases h3 : y < z
      · rw [if_pos (by omega)]; omega
      · by_cases h4 : z < y
        · rw [if_neg h3, if_pos h4] at h'; omega
        · rw [if_pos (by omega)]; omega
    · by_cases h2 : y < x
      · rw [if_neg h1, if_pos h2] at h; omega
      · rw [if_neg h1, if_neg h2] at h
        by_cases h3 : y < z
        · rw [if_pos (by omega)]; omega
        · by_cases h4 : z < y
          · rw [if_neg h3, if_pos h4] at h'; omega
          · rw [if_neg h3, if_neg h4] at h'
            rw [if_neg (by omega), if_neg (by omega)]
            exact lexC_trans h h'
theorem lexC_append : ∀ {p q a b : List Nat}, p.length = q.length → lexC (p ++ a) (q ++ b) = if lexC p q ≠ 0 then lexC p q else lexC a b
  | [], [], a, b, _ => by simp [lexC]
  | [], _ :: _, _, _, h => by simp at h
  | _ :: _, [], _, _, h => by simp at h
  | x :: p, y :: q, a, b, h => by
    simp only [List.cons_append]
    rw [lexC, lexC]
    by_cases h1 : x < y
    · rw [if_pos h1, if_pos h1]; simp
    · by_cases h2 : y < x
      · rw [if_neg h1, if_pos h2, if_neg h1, if_pos h2]; simp
      · rw [if_neg h1, if_neg h2, if_neg h1, if_neg h2]
        exact lexC_append (by simpa using h)
theorem u8_lt (x y : UInt8) : (x < y) ↔ x.toNat < y.toNat := UInt8.lt_iff_toNat_lt
theorem u8_ne {x y : UInt8} (h : x ≠ y) : x.toNat ≠ y.toNat := fun e => h (UInt8.toNat_inj.1 e)
theorem lexC_bytes : ∀ {x y : List UInt8}, x.length = y.length → lexC (x.map UInt8.toNat) (y.map UInt8.toNat) = if x ≠ y then (if Go.Op.bytesLess x y then -1 else 1) else 0
  | [], [], _ => by simp [lexC]
  | [], _ :: _, h => by simp at h
  | _ :: _, [], h => by simp at h
  | a :: x, b :: y, h => by
    have ih := lexC_bytes (x := x) (y := y) (by simpa using h)
    simp only [List.map_cons]
    unfold lexC Go.Op.bytesLess
    by_cases h1 : a.toNat < b.toNat
    · have hab : a ≠ b := fun e => by rw [e] at h1; omega
      rw [if_pos h1, if_pos (by simp [hab]), if_pos (by simp [u8_lt, h1])]
    · by_cases h2 : b.toNat < a.toNat
      · have hab : a ≠ b := fun e => by rw [e] at h2; omega
        rw [if_neg h1, if_pos h2, if_pos (by simp [hab]), if_neg (by simp [u8_lt, h1, hab])]
      · have hab : a = b := UInt8.toNat_inj.1 (by omega)
        subst hab
        rw [if_neg h1, if_neg h2, ih]
        by_cases hxy : x = y
        · simp [hxy]
        · simp [hxy]
/-- the numbers of a run: they order it -/
def numK (a : List UInt8) : List Nat := 48 :: (stripL a).length :: ((stripL a).map UInt8.toNat ++ [a.length])
def keyF : Nat → List UInt8 → List Nat
  | 0, _ => []
  | _ + 1, [] => []
  | k + 1, x :: a => if isDg x.toNat then numK ((x :: a).take (runN (x :: a))) ++ keyF k ((x :: a).drop (runN (x :: a))) else x.toNat :: keyF k a
def key (a : List UInt8) : List Nat := keyF (a.length + 1) a
theorem keyF_fuel : ∀ (k j : Nat) (a : List UInt8), a.length < k → a.length < j → keyF k a = keyF j a
  | 0, _, _, h, _ => absurd h (Nat.not_lt_zero _)
  | _ + 1, 0, _, _, h => absurd h (Nat.not_lt_zero _)
  | k + 1, j + 1, [], _, _ => rfl
  | k + 1, j + 1, x :: a, hk, hj => by
    simp only [List.length_cons] at hk hj
    unfold keyF
    by_cases hx : isDg x.toNat = true
    · rw [if_pos hx, if_pos hx]
      have h1 := runN_pos (l := a) hx
      have h2 := runN_le (x :: a)
      simp only [List.length_cons] at h2
      rw [keyF_fuel k j _ (by simp only [List.length_drop, List.length_cons]; omega) (by simp only [List.length_drop, List.length_cons]; omega)]
    · rw [if_neg hx, if_neg hx, keyF_fuel k j a (by omega) (by omega)]
theorem key_num {x : UInt8} {a : List UInt8} (hx : isDg x.toNat = true) : key (x :: a) = numK ((x :: a).take (runN (x :: a))) ++ key ((x :: a).drop (runN (x :: a))) := by
  have h1 := runN_pos (l := a) hx
  have h2 := runN_le (x :: a)
  simp only [List.length_cons] at h2
  unfold key
  rw [keyF, if_pos hx]
  rw [keyF_fuel _ _ _ (by simp only [List.length_drop, List.length_cons]; omega) (Nat.lt_succ_self _)]
theorem key_byte {x : UInt8} {a : List UInt8} (hx : isDg x.toNat = false) : key (x :: a) = x.toNat :: key a := by
  unfold key
  rw [keyF, if_neg (by simp [hx])]
  rw [keyF_fuel _ _ _ (by simp) (Nat.lt_succ_self _)]
theorem numK_lex (a b : List UInt8) (p q : List Nat) : lexC (numK a ++ p) (numK b ++ q) = if numC a b ≠ 0 then numC a b else lexC p q := by
  unfold numK numC
  simp only [List.cons_append]
  rw [lexC, if_neg (Nat.lt_irrefl _), if_neg (Nat.lt_irrefl _), lexC]
  by_cases hl : (stripL a).length = (stripL b).length
  · rw [if_neg (by omega), if_neg (by omega)]
    simp only [hl, ne_eq, not_true_eq_false, if_false]
    rw [List.append_assoc, List.append_assoc, lexC_append (by simpa using hl), lexC_bytes hl]
    by_cases he : stripL a = stripL b
    · simp only [he, ne_eq, not_true_eq_false, if_false, List.cons_append, List.nil_append]
      rw [lexC]
      unfold natC
      by_cases h1 : a.length < b.length
      · simp [h1]
      · by_cases h2 : b.length < a.length
        · simp [h1, h2]
        · simp [h1, h2]
    · simp only [ne_eq, he, not_false_eq_true, if_true]
      by_cases hb : Go.Op.bytesLess (stripL a) (stripL b) = true
      · simp [hb]
      · simp [hb]
  · simp only [ne_eq, hl, not_false_eq_true, if_true]
    unfold natC
    by_cases h1 : (stripL a).length < (stripL b).length
    · simp [h1]
    · simp [h1, show (stripL b).length < (stripL a).length by omega]
theorem isDg_iff {c : Nat} : isDg c = true ↔ 48 ≤ c ∧ c ≤ 57 := by simp [isDg]
theorem isDg_not {c : Nat} : isDg c = false ↔ c < 48 ∨ 57 < c := by
  unfold isDg
  rw [Bool.and_eq_false_iff, decide_eq_false_iff_not, decide_eq_false_iff_not]
  omega
theorem natC_ne {a b : Nat} (h : a ≠ b) : natC a b = if a < b then -1 else 1 := by
  unfold natC
  by_cases h1 : a < b
  · rw [if_pos h1, if_pos h1]
  · rw [if_neg h1, if_neg h1, if_pos (by omega)]
/-- the natural order is the order of the keys -/
theorem cmp_key : ∀ (k : Nat) (a b : List UInt8), a.length < k → cmpN a b = lexC (key a) (key b)
  | 0, _, _, h => absurd h (Nat.not_lt_zero _)
  | k + 1, [], [], _ => rfl
  | k + 1, [], y :: b, _ => by
    rw [cmpN_short]
    by_cases hy : isDg y.toNat = true
    · rw [key_num hy]; rfl
    · rw [key_byte (by simpa using hy)]; rfl
  | k + 1, x :: a, [], _ => by
    rw [cmpN_long]
    by_cases hy : isDg x.toNat = true
    · rw [key_num hy]; rfl
    · rw [key_byte (by simpa using hy)]; rfl
  | k + 1, x :: a, y :: b, hk => by
    simp only [List.length_cons] at hk
    have h2 := runN_le (x :: a)
    simp only [List.length_cons] at h2
    cases hx : isDg x.toNat with
    | true =>
      have h1 := runN_pos (l := a) hx
      cases hy : isDg y.toNat with
      | true =>
        rw [key_num hx, key_num hy, numK_lex]
        by_cases hn : numC ((x :: a).take (runN (x :: a))) ((y :: b).take (runN (y :: b))) = 0
        · rw [cmpN_nums hx hy hn, if_neg (by simp [hn])]
          exact cmp_key k _ _ (by simp only [List.length_drop, List.length_cons]; omega)
        · rw [cmpN_num hx hy hn, if_pos hn]
      | false =>
        have h3 := isDg_iff.1 hx
        have h4 := isDg_not.1 hy
        rw [key_num hx, key_byte hy, cmpN_byte (by simp [hx, hy]) (fun e => by rw [e, hy] at hx; cases hx), natC_ne (by omega)]
        unfold numK
        simp only [List.cons_append]
        rw [lexC]
        rcases h4 with h4 | h4
        · rw [if_neg (by omega), if_neg (by omega), if_pos h4]
        · rw [if_pos (by omega), if_pos (by omega)]
    | false =>
      cases hy : isDg y.toNat with
      | true =>
        have h3 := isDg_iff.1 hy
        have h4 := isDg_not.1 hx
        rw [key_num hy, key_byte hx, cmpN_byte (by simp [hx]) (fun e => by rw [e, hy] at hx; cases hx), natC_ne (by omega)]
        unfold numK
        simp only [List.cons_append]
        rw [lexC]
        rcases h4 with h4 | h4
        · rw [if_pos (by omega), if_pos h4]
        · rw [if_neg (by omega), if_neg (by omega), if_pos (by omega)]
      | false =>
        rw [key_byte hx, key_byte hy, lexC]
        by_cases he : x = y
        · subst he
          rw [cmpN_bytes hx, if_neg (Nat.lt_irrefl _), if_neg (Nat.lt_irrefl _)]
          exact cmp_key k a b (by omega)
        · have hn := u8_ne he
          rw [cmpN_byte (by simp [hx]) he, natC_ne hn]
          by_cases h5 : x.toNat < y.toNat
          · rw [if_pos h5, if_pos h5]
          · rw [if_neg h5, if_neg h5, if_pos (by omega)]
theorem cmpN_key (a b : List UInt8) : cmpN a b = lexC (key a) (key b) := cmp_key _ a b (Nat.lt_succ_self _)
theorem cmpN_swap (a b : List UInt8) : cmpN b a = - cmpN a b := by rw [cmpN_key, cmpN_key, lexC_swap]
theorem cmpN_trans {a b c : List UInt8} (h : cmpN a b < 0) (h' : cmpN b c < 0) : cmpN a c < 0 := by
  rw [cmpN_key] at *
  exact lexC_trans h h'
theorem strip_back : ∀ l : List UInt8, l = List.replicate (l.length - (stripL l).length) 48 ++ stripL l
  | [] => rfl
  | c :: l => by
    have ih := strip_back l
    unfold stripL Lib.trimLeftB at ih ⊢
    by_cases hc : (c == 48) = true
    · rw [List.dropWhile_cons_of_pos (p := fun x => x == 48) hc]
      have hle : (l.dropWhile (· == 48)).length ≤ l.length := (List.dropWhile_sublist _).length_le
      rw [show (c :: l).length - (l.dropWhile (· == 48)).length = (l.length - (l.dropWhile (· == 48)).length) + 1 by simp only [List.length_cons]; omega, List.replicate_succ, List.cons_append, ← ih]
      rw [eq_of_beq hc]
    · rw [List.dropWhile_cons_of_neg (p := fun x => x == 48) hc]; simp
theorem numC_zero {a b : List UInt8} (h : numC a b = 0) : a = b := by
  unfold numC natC at h
  by_cases h1 : (stripL a).length = (stripL b).length
  · rw [if_neg (by simp [h1])] at h
    by_cases h2 : stripL a = stripL b
    · rw [if_neg (by simp [h2])] at h
      have h3 : a.length = b.length := by
        by_cases h4 : a.length < b.length
        · rw [if_pos h4] at h; omega
        · by_cases h5 : b.length < a.length
          · rw [if_neg h4, if_pos h5] at h; omega
          · omega
      rw [strip_back a, strip_back b, h2, h3]
    · rw [if_pos h2] at h
      split at h <;> omega
  · rw [if_pos h1] at h
    split at h
    · omega
    · split at h <;> omega
theorem cmp_eq : ∀ (k : Nat) (a b : List UInt8), a.length < k → cmpN a b = 0 → a = b
  | 0, _, _, h, _ => absurd h (Nat.not_lt_zero _)
  | k + 1, [], [], _, _ => rfl
  | k + 1, [], y :: b, _, h => by rw [cmpN_short] at h; omega
  | k + 1, x :: a, [], _, h => by rw [cmpN_long] at h; omega
  | k + 1, x :: a, y :: b, hk, h => by
    simp only [List.length_cons] at hk
    have h2 := runN_le (x :: a)
    simp only [List.length_cons] at h2
    by_cases hd : (isDg x.toNat && isDg y.toNat) = true
    · obtain ⟨hx, hy⟩ := Bool.and_eq_true_iff.1 hd
      have h1 := runN_pos (l := a) hx
      by_cases hn : numC ((x :: a).take (runN (x :: a))) ((y :: b).take (runN (y :: b))) = 0
      · rw [cmpN_nums hx hy hn] at h
        have e1 := numC_zero hn
        have e2 := cmp_eq k _ _ (by simp only [List.length_drop, List.length_cons]; omega) h
        rw [← List.take_append_drop (runN (x :: a)) (x :: a), e1, e2, List.take_append_drop]
      · rw [cmpN_num hx hy hn] at h; exact absurd h hn
    · have hd' : (isDg x.toNat && isDg y.toNat) = false := by simpa using hd
      by_cases he : x = y
      · subst he
        rw [Bool.and_self] at hd'
        rw [cmpN_bytes hd'] at h
        rw [cmp_eq k a b (by omega) h]
      · rw [cmpN_byte hd' he, natC_ne (u8_ne he)] at h
        split at h <;> omega
theorem cmpN_zero {a b : List UInt8} : cmpN a b = 0 ↔ a = b := ⟨cmp_eq _ a b (Nat.lt_succ_self _), fun h => by rw [h, cmpN_key]; exact lexC_zero.2 rfl⟩
end Go.Proofs.YtennhjkhjplmoaaDoor
