/- Label: Witness. -/
import Derived.Test.YtppbblgdcckbdaaDoorLbCh
import Derived.Test.YtppbblgdcckbdaaDoorLbPe
import Derived.Test.YtppbblgdcckbdaaDoorLbSo
namespace Go.Proofs.YtppbblgdcckbdaaDoor
open Go.RowKit
abbrev nmOf (q : ByteArray) : List UInt8 := (readL q.data.toList).name
def nsL (l : List ByteArray) : List ByteArray := (l.filter fun q => decide (nmOf q ≠ [])).map fun q => strS (nmOf q)
theorem ns_snoc {l : List ByteArray} {i : Nat} {q : ByteArray} (h : l[i]? = some q) : nsL (l.take (i + 1)) = nsL (l.take i) ++ (if nmOf q = [] then [] else [strS (nmOf q)]) := by
  unfold nsL
  rw [take_snoc h, List.filter_append, List.map_append]
  congr 1
  by_cases hn : nmOf q = []
  · rw [if_pos hn]; simp [hn]
  · rw [if_neg hn]; simp [hn]
theorem ns_len (l : List ByteArray) : (nsL l).length ≤ l.length := by
  unfold nsL
  rw [List.length_map]
  exact List.length_filter_le _ _
theorem ns_mem {l : List ByteArray} {x : ByteArray} : x ∈ nsL l ↔ ∃ q ∈ l, nmOf q ≠ [] ∧ x = strS (nmOf q) := by
  unfold nsL
  rw [List.mem_map]
  constructor
  · rintro ⟨q, hq, rfl⟩
    rw [List.mem_filter] at hq
    exact ⟨q, hq.1, by simpa using hq.2, rfl⟩
  · rintro ⟨q, h1, h2, rfl⟩
    exact ⟨q, List.mem_filter.2 ⟨h1, by simpa using h2⟩, rfl⟩
theorem ns_size {l : List ByteArray} (hm : ∀ q ∈ l, q.size ≤ 100) : ∀ x ∈ nsL l, x.size ≤ 100 := by
  intro x hx
  obtain ⟨q, h1, _, rfl⟩ := ns_mem.1 hx
  have := read_len q.data.toList
  rw [list_size] at this
  have := hm q h1
  rw [strS_size]
  show (readL q.data.toList).name.length ≤ 100
  omega
theorem ns_ok {a b L : List ByteArray} (h : ∀ x, x ∈ L ↔ x ∈ nsL (a ++ b)) : namesOk (toLs L) (PA a) (PA b) := by
  have key : ∀ q ∈ a ++ b, Fit (readL q.data.toList) → nmOf q ∈ toLs L := fun q hq hf => List.mem_map.2 ⟨strS (nmOf q), (h _).2 (ns_mem.2 ⟨q, hq, name_ne hf.name, rfl⟩), rfl⟩
  refine ⟨fun nm hn => ?_, fun t ht hf => ?_, fun t ht hf => ?_⟩
  · obtain ⟨x, hx, rfl⟩ := List.mem_map.1 hn
    obtain ⟨q, _, h2, rfl⟩ := ns_mem.1 ((h x).1 hx)
    rcases readL_fit q.data.toList with e | e
    · exact absurd (by show (readL q.data.toList).name = []; rw [e]; rfl) h2
    · exact e.name
  · obtain ⟨s, hs, rfl⟩ := List.mem_map.1 ht
    obtain ⟨q, hq, rfl⟩ := List.mem_map.1 hs
    exact key q (List.mem_append_left _ hq) hf
  · obtain ⟨s, hs, rfl⟩ := List.mem_map.1 ht
    obtain ⟨q, hq, rfl⟩ := List.mem_map.1 hs
    exact key q (List.mem_append_right _ hq) hf
theorem permF_lo (nm : List UInt8) : ∀ (a : List Prt) (c : Cs), (∀ t ∈ a, t.n ≤ MAXN) → c.lo ≤ MAXN → (permF nm c a).lo ≤ MAXN
  | [], _, _, h => h
  | t :: r, c, ht, h => by
    have ht0 := ht t (List.mem_cons_self ..)
    have htr := fun x hx => ht x (List.mem_cons_of_mem _ hx)
    unfold permF
    split
    · refine permF_lo nm r _ htr ?_
      unfold meetC
      split
      · show (1 : Nat) ≤ MAXN; decide
      · show (if t.form = 3 ∨ t.form = 5 then max c.lo t.n else c.lo) ≤ MAXN
        split <;> omega
    · exact permF_lo nm r _ htr h
theorem permC_lo {a : List Prt} (ha : ∀ t ∈ a, t = bad ∨ Fit t) (nm : List UInt8) : (permC a nm).lo ≤ MAXN := permF_lo nm a c0 (fun t ht => by
  rcases ha t ht with e | e
  · rw [e]; exact Nat.zero_le _
  · exact e.n) (Nat.zero_le _)
theorem wit_snoc {f : List UInt8 → St} {L : List ByteArray} {i : Nat} {q : ByteArray} (h : L[i]? = some q) : witL f (toLs (L.take (i + 1))) = witL f (toLs (L.take i)) ++ (if chL q.data.toList (f q.data.toList) = [] then [] else [chL q.data.toList (f q.data.toList)]) := by
  unfold witL toLs
  rw [take_snoc h, List.map_append, List.map_append, List.filter_append]
  congr 1
  by_cases hn : chL q.data.toList (f q.data.toList) = []
  · rw [if_pos hn]; simp [hn]
  · rw [if_neg hn]; simp [hn]
theorem ch_len (nm : List UInt8) {s : St} (hv : Vst s) : (chL nm s).length ≤ nm.length + 17 := by
  rcases s with _ | _ | m
  · exact Nat.zero_le _
  · show nm.length ≤ _; omega
  · show (nm ++ 61 :: decL m).length ≤ _
    have := decL_le (hv m rfl)
    simp
    omega
theorem chS_any {a b : Cs} (h1 : a.lo ≤ MAXN) (h2 : a.hi ≤ MAXN) : Vst (chS a b) := by
  intro m hm
  unfold chS at hm
  repeat' split at hm
  all_goals (first | (cases hm; exact h1) | (cases hm; exact h2) | (cases hm))
theorem app_at {a b : List ByteArray} {i : Nat} (h : a.length ≤ i) : (a ++ b)[i]? = b[i - a.length]? := List.getElem?_append_right h
theorem toLs_app (a : List ByteArray) (s : List UInt8) : toLs (a ++ [strS s]) = toLs a ++ [s] := by
  unfold toLs
  rw [List.map_append]
  rfl
set_option maxRecDepth 100000 in
set_option maxHeartbeats 6000000 in
theorem witness_any (l l2 : List ByteArray) (A A2 : Option Addr) (n c n2 c2 : Nat) (w : World) (hn : n = l.length) (hs : Seq w w.heap.size 1 A n (cellsS l)) (hF : Few l) (hn2 : n2 = l2.length) (hs2 : Seq w w.heap.size 1 A2 n2 (cellsS l2)) (hF2 : Few l2) :
    Calls Tryd.prog 18 #[.slice A n c, .slice A2 n2 c2] w fun e w' => ∃ (O L : List ByteArray) (A' : Option Addr) (c' : Nat), e = .returned (.slice A' O.length c') ∧ namesOk (toLs L) (PA l) (PA l2) ∧ toLs O = witL (wch (PA l) (PA l2)) (toLs L) ∧ O.length ≤ 1000 ∧ (∀ q ∈ O, q.size ≤ 1000000) ∧ Own w w' 9 1 (.slice A' O.length c') O.length (cellsS O) := by
  have hfl : ∀ (w' : World) (u v x : Value), (Instr.field 38 (.agg #[u, v, x]) 1).run Tryd.prog w' = .ok v w' := fun _ _ _ _ => by kernel_rfl
  have hl40 := hF.1
  have hl240 := hF2.1
  have CP := fun w' (h : Below w.heap.size w w') (nm : List UInt8) => permits_any l nm A n c w' hn ((hs.below h).more h.size) (by omega) hF.m
  have CP2 := fun w' (h : Below w.heap.size w w') (nm : List UInt8) => permits_any l2 nm A2 n2 c2 w' hn2 ((hs2.below h).more h.size) (by omega) hF2.m
  have hm := hF.m
  have hm2 := hF2.m
  have hsz : ∀ q ∈ l ++ l2, q.size ≤ 100 := fun q hq => (List.mem_append.1 hq).elim (hF.2 q) (hF2.2 q)
  replace hfl := Lib.hid hfl
  replace CP := Lib.hid CP
  replace CP2 := Lib.hid CP2
  replace hs := Lib.hid hs
  replace hs2 := Lib.hid hs2
  replace hm := Lib.hid hm
  replace hm2 := Lib.hid hm2
  replace hsz := Lib.hid hsz
  have hn40 : n ≤ 40 := by omega
  have hn240 : n2 ≤ 40 := by omega
  have hsum : IntKind.i64.wrap ((n : Int) + (n2 : Int)) = ((n + n2 : Nat) : Int) := by rw [IntWalk.i64_in _ (by omega)]; omega
  have hlen12 : (l ++ l2).length = n + n2 := by rw [List.length_append, hn, hn2]
  replace hlen12 := Lib.hid hlen12
  replace hn := Lib.hid hn
  replace hn2 := Lib.hid hn2
  clear hl40 hl240 hF hF2
  go_enter Tryd.func18, Tryd.ntmps18
  repeat' ((fail_if_success at_builtin); (first | go_skip | go_guarded | go_step))
  go_loopw [5, 7] (fun u5 u7 wr => ∃ (i : Nat) (A' : Option Addr) (c' : Nat), i ≤ n + n2 ∧ u7 = .int .i64 (i : Int) ∧ u5 = .slice A' (nsL ((l ++ l2).take i)).length c' ∧ Own w wr 9 1 (.slice A' (nsL ((l ++ l2).take i)).length c') (nsL ((l ++ l2).take i)).length (cellsS (nsL ((l ++ l2).take i)))) (fun _ u7 _ => n + n2 - (intOf u7).toNat)
  case atStart => exact ⟨0, none, 0, by omega, rfl, rfl, Own.nil_ w _ _⟩
  case round =>
    obtain ⟨i, A', c', hi, rfl, rfl, hO⟩ := hrel
    have hnl : (nsL ((l ++ l2).take i)).length ≤ 80 := by have := ns_len ((l ++ l2).take i); have := List.length_take_le i (l ++ l2); omega
    by_cases hlt : i < n + n2
    · have i0 : (0 : Int) ≤ (i : Int) := by omega
      have i1 : (i : Int) < ((n + n2 : Nat) : Int) := by omega
      have i2 : IntKind.i64.wrap ((i : Int) + 1) = (i : Int) + 1 := IntWalk.i64_in _ (by omega)
      by_cases hia : i < n
      · have i3 : (i : Int) < (n : Int) := by omega
        obtain ⟨q, hq⟩ : ∃ q, l[i]? = some q := ⟨_, List.getElem?_eq_getElem (by have := hn.out; omega)⟩
        have hab : (l ++ l2)[i]? = some q := by rw [List.getElem?_append_left (by have := hn.out; omega)]; exact hq

        obtain ⟨bl, off, rfl, hbl, hcq⟩ := strs_at hs.out hia hq
        have hq6 := hm.out q (List.mem_of_getElem? hq)
        have cq := (hO.2.cell (p := ⟨bl, off + i, none⟩) hbl).trans hcq
        have hnsn := ns_snoc hab
        clear hcq hq hab
        repeat' ((fail_if_success at_builtin); (first | go_skip | go_guarded | go_step))
        refine (read_any q wr (by omega)).mono ?_
        rintro e w2 ⟨rfl, hb2⟩
        dsimp only
        have hO2 := hO.below hb2
        have hfl1 := hfl.out
        clear cq
        by_cases hn : nmOf q = []
        · rw [if_pos hn, List.append_nil] at hnsn
          have hn2 : (readL q.data.toList).name = [] := hn
          replace hnsn := Lib.hid hnsn
          generalize readL q.data.toList = t at *
          obtain ⟨tf, tn, tm⟩ := t
          obtain rfl : tn = [] := hn2
          clear hn
          repeat' ((fail_if_success at_builtin); (first | go_skip | go_guarded | go_step))
          go_roundw
          case rel => exact ⟨i + 1, A', c', by omega, by go_num, by rw [hnsn.out], by rw [hnsn.out]; exact hO2⟩
          case measure => simp [intOf]; omega
        · rw [if_neg hn] at hnsn
          have hn2 : ((readL q.data.toList).name == []) = false := by simpa using hn
          have hlen1 := congrArg List.length hnsn
          rw [List.length_append] at hlen1
          replace hlen1 := Lib.hid hlen1
          have hcs : cellsS (nsL ((l ++ l2).take i)) ++ (#[Value.string (strS (readL q.data.toList).name)] : Array Value).toList = cellsS (nsL ((l ++ l2).take (i + 1))) := by rw [hnsn]; simp
          replace hcs := Lib.hid hcs
          replace hnsn := Lib.hid hnsn
          repeat' ((fail_if_success at_builtin); (first | go_skip | go_guarded | go_step))
          refine wp_app1 hO2 Tryd.underlying22 str_info (by omega) ?_
          intro v3 w3 hO3 _
          rw [hcs.out, show (nsL ((l ++ l2).take i)).length + 1 = (nsL ((l ++ l2).take (i + 1))).length by rw [hlen1.out]; rfl] at hO3
          obtain ⟨A3, c3, rfl⟩ := Own.slice_form hO3
          repeat' ((fail_if_success at_builtin); (first | go_skip | go_guarded | go_step))
          go_roundw
          case rel => exact ⟨i + 1, A3, c3, by omega, by go_num, rfl, hO3⟩
          case measure => simp [intOf]; omega
      · have i3 : ¬ (i : Int) < (n : Int) := by omega
        obtain ⟨j, hj⟩ : ∃ j, i = n + j := ⟨i - n, by omega⟩
        have j0 : (0 : Int) ≤ (j : Int) := by omega
        have j1 : (j : Int) < (n2 : Int) := by omega
        have j2 : IntKind.i64.wrap ((i : Int) - (n : Int)) = (j : Int) := by rw [IntWalk.i64_in _ (by omega)]; omega
        have hjn : j < n2 := by omega
        obtain ⟨q, hq⟩ : ∃ q, l2[j]? = some q := ⟨_, List.getElem?_eq_getElem (by have := hn2.out; omega)⟩
        have hab : (l ++ l2)[i]? = some q := by rw [app_at (by have := hn.out; omega), show i - l.length = j by have := hn.out; omega]; exact hq
        replace hj := Lib.hid hj

        obtain ⟨bl, off, rfl, hbl, hcq⟩ := strs_at hs2.out hjn hq
        have hq6 := hm2.out q (List.mem_of_getElem? hq)
        have cq := (hO.2.cell (p := ⟨bl, off + j, none⟩) hbl).trans hcq
        have hnsn := ns_snoc hab
        clear hcq hq hab
        repeat' ((fail_if_success at_builtin); (first | go_skip | go_guarded | go_step))
        refine (read_any q wr (by omega)).mono ?_
        rintro e w2 ⟨rfl, hb2⟩
        dsimp only
        have hO2 := hO.below hb2
        have hfl1 := hfl.out
        clear cq
        by_cases hn : nmOf q = []
        · rw [if_pos hn, List.append_nil] at hnsn
          have hn2 : (readL q.data.toList).name = [] := hn
          replace hnsn := Lib.hid hnsn
          generalize readL q.data.toList = t at *
          obtain ⟨tf, tn, tm⟩ := t
          obtain rfl : tn = [] := hn2
          clear hn
          repeat' ((fail_if_success at_builtin); (first | go_skip | go_guarded | go_step))
          go_roundw
          case rel => exact ⟨i + 1, A', c', by omega, by go_num, by rw [hnsn.out], by rw [hnsn.out]; exact hO2⟩
          case measure => simp [intOf]; omega
        · rw [if_neg hn] at hnsn
          have hn2 : ((readL q.data.toList).name == []) = false := by simpa using hn
          have hlen1 := congrArg List.length hnsn
          rw [List.length_append] at hlen1
          replace hlen1 := Lib.hid hlen1
          have hcs : cellsS (nsL ((l ++ l2).take i)) ++ (#[Value.string (strS (readL q.data.toList).name)] : Array Value).toList = cellsS (nsL ((l ++ l2).take (i + 1))) := by rw [hnsn]; simp
          replace hcs := Lib.hid hcs
          replace hnsn := Lib.hid hnsn
          repeat' ((fail_if_success at_builtin); (first | go_skip | go_guarded | go_step))
          refine wp_app1 hO2 Tryd.underlying22 str_info (by omega) ?_
          intro v3 w3 hO3 _
          rw [hcs.out, show (nsL ((l ++ l2).take i)).length + 1 = (nsL ((l ++ l2).take (i + 1))).length by rw [hlen1.out]; rfl] at hO3
          obtain ⟨A3, c3, rfl⟩ := Own.slice_form hO3
          repeat' ((fail_if_success at_builtin); (first | go_skip | go_guarded | go_step))
          go_roundw
          case rel => exact ⟨i + 1, A3, c3, by omega, by go_num, rfl, hO3⟩
          case measure => simp [intOf]; omega
    · have i1 : ¬ (i : Int) < ((n + n2 : Nat) : Int) := by omega
      have htk : (l ++ l2).take i = l ++ l2 := List.take_of_length_le (by rw [hlen12.out]; omega)
      rw [htk] at hO hnl
      have hsN := ns_size hsz.out
      obtain ⟨NS, hNS⟩ : ∃ NS, NS = nsL (l ++ l2) := ⟨_, rfl⟩
      rw [htk]
      rw [← hNS] at hO hnl hsN ⊢
      have CS := sorted_any NS A' c' wr hO.seq (by omega) (fun q hq => by have := hsN q hq; omega)
      replace CS := Lib.hid CS
      replace hNS := Lib.hid hNS
      replace hsN := Lib.hid hsN
      clear htk
      repeat' ((fail_if_success at_builtin); (first | go_skip | go_guarded | go_step))
      refine CS.out.mono ?_
      rintro e w3 ⟨L, A3, c3, rfl, hLl, hLm, hO3⟩
      dsimp only
      have hb3 := hO.2.trans (hO3.2.mono hO.2.size)
      have hok : namesOk (toLs L) (PA l) (PA l2) := ns_ok (fun x => by rw [hLm, hNS.out])
      have hsL : ∀ q ∈ L, q.size ≤ 100 := fun q hq => hsN.out q ((hLm q).1 hq)
      have hL := hO3.seq
      have hL80 : L.length ≤ 80 := by omega
      have hlo3 := hb3.size
      replace hok := Lib.hid hok
      replace hsL := Lib.hid hsL
      clear hO hO3 hLm hLl CS
      repeat' ((fail_if_success at_builtin); (first | go_skip | go_guarded | go_step))
      obtain ⟨wo, hwo⟩ : ∃ wo : World, wo = w3 := ⟨w3, rfl⟩
      subst hwo
      go_loopw [6, 9] (fun u6 u9 wr => ∃ (i : Nat) (O : List ByteArray) (A' : Option Addr) (c' : Nat), i ≤ L.length ∧ u9 = .int .i64 (i : Int) ∧ u6 = .slice A' O.length c' ∧ O.length ≤ i ∧ toLs O = witL (wch (PA l) (PA l2)) (toLs (L.take i)) ∧ (∀ q ∈ O, q.size ≤ 1000) ∧ Own wo wr 9 1 (.slice A' O.length c') O.length (cellsS O)) (fun _ u9 _ => L.length - (intOf u9).toNat)
      case atStart => exact ⟨0, [], none, 0, by omega, rfl, rfl, by simp, rfl, by simp, Own.nil_ wo _ _⟩
      case round =>
        obtain ⟨i, O, A', c', hi, rfl, rfl, hOi, hOw, hOs, hO⟩ := hrel
        have hb9 := hb3.trans (hO.2.mono hb3.size)
        by_cases hlt : i < L.length
        · have i0 : (0 : Int) ≤ (i : Int) := by omega
          have i1 : (i : Int) < (L.length : Int) := by omega
          have i2 : IntKind.i64.wrap ((i : Int) + 1) = (i : Int) + 1 := IntWalk.i64_in _ (by omega)
          obtain ⟨q, hq⟩ : ∃ q, L[i]? = some q := ⟨_, List.getElem?_eq_getElem hlt⟩
          obtain ⟨nm, rfl⟩ : ∃ nm, q = strS nm := ⟨q.data.toList, (strS_data q).symm⟩
          have hwn := wit_snoc (f := wch (PA l) (PA l2)) hq
          rw [strS_list, ← hOw] at hwn
          have hnm : nm.length ≤ 100 := by have := hsL.out _ (List.mem_of_getElem? hq); rw [strS_size] at this; exact this
          obtain ⟨bl, off, rfl, hbl, hcq⟩ := strs_at hL hlt hq
          have cq := (hO.2.cell (p := ⟨bl, off + i, none⟩) hbl).trans hcq
          have lq := Nat.lt_of_lt_of_le hbl hO.2.size
          have CPn := fun w' (h : Below w.heap.size w w') => CP.out w' h nm
          have CPm := fun w' (h : Below w.heap.size w w') => CP2.out w' h nm
          have hy1 := permC_lo (prts_fit (toLs l)) nm
          have hy2 := permC_hi (PA l) nm
          have hwc : wch (PA l) (PA l2) nm = chS (permC (PA l) nm) (permC (PA l2) nm) := rfl
          rw [hwc] at hwn
          generalize permC (PA l) nm = Y at CPn hwn hy1 hy2
          generalize permC (PA l2) nm = Z at CPm hwn
          have hvs := ch_len nm (chS_any (b := Z) hy1 hy2)
          obtain ⟨ya, yp, yl, yh⟩ := Y
          obtain ⟨za, zp, zl, zh⟩ := Z
          replace CPn := Lib.hid CPn
          replace CPm := Lib.hid CPm
          have hS : ∀ w', Below wr.heap.size wr w' → (Below wr.heap.size wr w' ∧ w'.cell? ⟨bl, off + i, none⟩ = some (.string (strS nm))) := fun w' h => ⟨h, (h.cell (p := ⟨bl, off + i, none⟩) lq).trans cq⟩
          have keepS : ∀ w' w'', (Below wr.heap.size wr w' ∧ w'.cell? ⟨bl, off + i, none⟩ = some (.string (strS nm))) → Below w'.heap.size w' w'' → (Below wr.heap.size wr w'' ∧ w''.cell? ⟨bl, off + i, none⟩ = some (.string (strS nm))) := fun w' w'' h hq => hS _ (h.1.trans (hq.mono h.1.size))
          have hS1 := hS wr.drew (Below.refl _ _).drew
          replace keepS := Lib.hid keepS
          clear hS hcq hwc hq
          generalize hch : chL nm (chS ⟨ya, yp, yl, yh⟩ ⟨za, zp, zl, zh⟩) = ch at *
          replace hch := Lib.hid hch
          repeat' ((fail_if_success at_builtin); (first | go_skip | go_guarded | go_step))
          refine wp_region_held_drew (S := fun w' => Below wr.heap.size wr w' ∧ w'.cell? ⟨bl, off + i, none⟩ = some (.string (strS nm))) (by kernel_rfl) ?_ (fun hHeld => ?_)
          · (try dsimp only)
            exact hS1
          refine tkY 0 (v := ?v125) rfl (.inl ⟨by rfl, ?hy125⟩) ?hr125
          case hy125 => (intro w hSw; (try dsimp only at hSw); go_simp; try with_reducible rfl)
          simp only [Act.put, List.getElem_toArray, List.getElem_cons_zero, List.getElem_cons_succ, List.setIfInBounds_toArray, List.set_cons_zero, List.set_cons_succ]
          refine tkY 1 (v := ?v126) rfl (.inl ⟨by rfl, ?hy126⟩) ?hr126
          case hy126 => (intro w hSw; (try dsimp only at hSw); go_simp; try with_reducible rfl)
          simp only [Act.put, List.getElem_toArray, List.getElem_cons_zero, List.getElem_cons_succ, List.setIfInBounds_toArray, List.set_cons_zero, List.set_cons_succ]
          refine tkY 2 (v := ?v127) rfl (.inl ⟨by rfl, ?hy127⟩) ?hr127
          case hy127 => (intro w hSw; (try dsimp only at hSw); go_simp; try with_reducible rfl)
          simp only [Act.put, List.getElem_toArray, List.getElem_cons_zero, List.getElem_cons_succ, List.setIfInBounds_toArray, List.set_cons_zero, List.set_cons_succ]
          refine tkY 3 (v := ?v128) rfl (.inl ⟨by rfl, ?hy128⟩) ?hr128
          case hy128 => (intro w hSw; (try dsimp only at hSw); go_simp; try with_reducible rfl)
          simp only [Act.put, List.getElem_toArray, List.getElem_cons_zero, List.getElem_cons_succ, List.setIfInBounds_toArray, List.set_cons_zero, List.set_cons_succ]
          refine tkY 4 (v := ?v129) rfl (.inl ⟨by rfl, ?hy129⟩) ?hr129
          case hy129 => (intro w hSw; (try dsimp only at hSw); go_simp; try with_reducible rfl)
          simp only [Act.put, List.getElem_toArray, List.getElem_cons_zero, List.getElem_cons_succ, List.setIfInBounds_toArray, List.set_cons_zero, List.set_cons_succ]
          refine tkY 5 (v := ?v130) rfl (.inl ⟨by rfl, ?hy130⟩) ?hr130
          case hy130 => (intro w hSw; (try dsimp only at hSw); go_simp; try with_reducible rfl)
          simp only [Act.put, List.getElem_toArray, List.getElem_cons_zero, List.getElem_cons_succ, List.setIfInBounds_toArray, List.set_cons_zero, List.set_cons_succ]
          refine tkY 6 (v := ?v131) rfl (.inl ⟨by rfl, ?hy131⟩) ?hr131
          case hy131 => (intro w hSw; (try dsimp only at hSw); go_simp; try with_reducible rfl)
          simp only [Act.put, List.getElem_toArray, List.getElem_cons_zero, List.getElem_cons_succ, List.setIfInBounds_toArray, List.set_cons_zero, List.set_cons_succ]
          refine tkY 7 (v := ?v132) rfl (.inl ⟨by rfl, ?hy132⟩) ?hr132
          case hy132 => (intro w hSw; (try dsimp only at hSw); go_simp; try with_reducible rfl)
          simp only [Act.put, List.getElem_toArray, List.getElem_cons_zero, List.getElem_cons_succ, List.setIfInBounds_toArray, List.set_cons_zero, List.set_cons_succ]
          refine tkY 8 (v := ?v133) rfl (.inl ⟨by rfl, ?hy133⟩) ?hr133
          case hy133 => (intro w hSw; (try dsimp only at hSw); go_simp; try with_reducible rfl)
          simp only [Act.put, List.getElem_toArray, List.getElem_cons_zero, List.getElem_cons_succ, List.setIfInBounds_toArray, List.set_cons_zero, List.set_cons_succ]
          refine tkY 10 (v := ?v134) rfl (.inl ⟨by rfl, ?hy134⟩) ?hr134
          case hy134 => (intro w hSw; (try dsimp only at hSw); go_simp; try with_reducible rfl)
          simp only [Act.put, List.getElem_toArray, List.getElem_cons_zero, List.getElem_cons_succ, List.setIfInBounds_toArray, List.set_cons_zero, List.set_cons_succ]
          refine tkY 11 (v := ?v135) rfl (.inl ⟨by rfl, ?hy135⟩) ?hr135
          case hy135 => (intro w hSw; (try dsimp only at hSw); go_simp; try with_reducible rfl)
          simp only [Act.put, List.getElem_toArray, List.getElem_cons_zero, List.getElem_cons_succ, List.setIfInBounds_toArray, List.set_cons_zero, List.set_cons_succ]
          refine tkY 12 (v := ?v136) rfl (.inl ⟨by rfl, ?hy136⟩) ?hr136
          case hy136 => (intro w hSw; (try dsimp only at hSw); go_simp; try with_reducible rfl)
          simp only [Act.put, List.getElem_toArray, List.getElem_cons_zero, List.getElem_cons_succ, List.setIfInBounds_toArray, List.set_cons_zero, List.set_cons_succ]
          refine tkY 13 (v := ?v137) rfl (.inl ⟨by rfl, ?hy137⟩) ?hr137
          case hy137 => (intro w hSw; (try dsimp only at hSw); go_simp; try with_reducible rfl)
          simp only [Act.put, List.getElem_toArray, List.getElem_cons_zero, List.getElem_cons_succ, List.setIfInBounds_toArray, List.set_cons_zero, List.set_cons_succ]
          refine tkY 14 (v := ?v138) rfl (.inl ⟨by rfl, ?hy138⟩) ?hr138
          case hy138 => (intro w hSw; (try dsimp only at hSw); go_simp; try with_reducible rfl)
          simp only [Act.put, List.getElem_toArray, List.getElem_cons_zero, List.getElem_cons_succ, List.setIfInBounds_toArray, List.set_cons_zero, List.set_cons_succ]
          refine wpAnyH_ready (rs := [9]) (by kernel_rfl) (by simp) ?_
          refine AllReadyH.cons rfl (fun K hK => ?_) AllReadyH.nil
          go_simp
          go_at_call 34
          refine (CPn.out _ (hb9.trans (hHeld.1.mono hb9.size))).mono ?_
          rintro e w7 ⟨rfl, hbq⟩
          dsimp only
          refine hK.out _ _ ?_ (fun hHeld => ?_)
          · (try dsimp only)
            exact keepS.out _ _ hHeld hbq
          clear hK K
          try simp only [Act.put, List.getElem_toArray, List.getElem_cons_zero, List.getElem_cons_succ, List.setIfInBounds_toArray, List.set_cons_zero, List.set_cons_succ]
          refine wpAnyH_ready (rs := [15]) (by kernel_rfl) (by simp) ?_
          refine AllReadyH.cons rfl (fun K hK => ?_) AllReadyH.nil
          go_simp
          go_at_call 34
          refine (CPm.out _ (hb9.trans (hHeld.1.mono hb9.size))).mono ?_
          rintro e w7 ⟨rfl, hbq⟩
          dsimp only
          refine hK.out _ _ ?_ (fun hHeld => ?_)
          · (try dsimp only)
            exact keepS.out _ _ hHeld hbq
          clear hK K
          try simp only [Act.put, List.getElem_toArray, List.getElem_cons_zero, List.getElem_cons_succ, List.setIfInBounds_toArray, List.set_cons_zero, List.set_cons_succ]
          refine wpAnyH_ready (rs := [16]) (by kernel_rfl) (by simp) ?_
          refine AllReadyH.cons rfl (fun K hK => ?_) AllReadyH.nil
          go_simp
          go_at_call 36
          refine (chosen_any nm ⟨ya, yp, yl, yh⟩ ⟨za, zp, zl, zh⟩ _ hy1 hy2 (by omega)).mono ?_
          rintro e w8 ⟨rfl, hbq⟩
          dsimp only
          rw [hch.out]
          refine hK.out _ _ ?_ (fun hHeld => ?_)
          · (try dsimp only)
            exact keepS.out _ _ hHeld hbq
          clear hK K
          try simp only [Act.put, List.getElem_toArray, List.getElem_cons_zero, List.getElem_cons_succ, List.setIfInBounds_toArray, List.set_cons_zero, List.set_cons_succ]
          refine tkY 17 (v := ?v139) rfl (.inl ⟨by rfl, ?hy139⟩) ?hr139
          case hy139 => (intro w hSw; (try dsimp only at hSw); go_simp; try with_reducible rfl)
          simp only [Act.put, List.getElem_toArray, List.getElem_cons_zero, List.getElem_cons_succ, List.setIfInBounds_toArray, List.set_cons_zero, List.set_cons_succ]
          refine wpAnyH_done (by kernel_rfl) ?_ _
          have hO2 := hO.below hHeld.1
          clear hO hS1 keepS cq hHeld
          by_cases hn0 : ch = []
          · rw [if_pos hn0, List.append_nil] at hwn
            replace hwn := Lib.hid hwn
            subst hn0
            repeat' ((fail_if_success at_builtin); (first | go_skip | go_guarded | go_step))
            go_roundw
            case rel => exact ⟨i + 1, O, A', c', by omega, by go_num, rfl, by omega, hwn.out.symm, hOs, hO2⟩
            case measure => simp [intOf]; omega
          · rw [if_neg hn0, ← toLs_app] at hwn
            have hn1 : (ch == []) = false := by simpa using hn0
            have hs9 : ∀ q ∈ O ++ [strS ch], q.size ≤ 1000 := fun q hq => by
              rcases List.mem_append.1 hq with h | h
              · exact hOs q h
              · rw [List.mem_singleton.1 h, strS_size]; omega
            have hl9 : (O ++ [strS ch]).length = O.length + 1 := by simp
            have hc9 : cellsS O ++ (#[Value.string (strS ch)] : Array Value).toList = cellsS (O ++ [strS ch]) := by simp
            replace hwn := Lib.hid hwn
            replace hs9 := Lib.hid hs9
            replace hl9 := Lib.hid hl9
            replace hc9 := Lib.hid hc9
            clear hn0
            repeat' ((fail_if_success at_builtin); (first | go_skip | go_guarded | go_step))
            refine wp_app1 hO2 Tryd.underlying22 str_info (by omega) ?_
            intro v4 w4 hO4 _
            rw [hc9.out, ← hl9.out] at hO4
            obtain ⟨A4, c4, rfl⟩ := Own.slice_form hO4
            repeat' ((fail_if_success at_builtin); (first | go_skip | go_guarded | go_step))
            go_roundw
            case rel => exact ⟨i + 1, O ++ [strS ch], A4, c4, by omega, by go_num, by rw [hl9.out], by rw [hl9.out]; omega, hwn.out.symm, hs9.out, hO4⟩
            case measure => simp [intOf]; omega
        · have i1 : ¬ (i : Int) < (L.length : Int) := by omega
          have htk2 : L.take i = L := List.take_of_length_le (by omega)
          rw [htk2] at hOw
          replace hOw := Lib.hid hOw
          clear htk2
          repeat' ((fail_if_success at_builtin); (first | go_skip | go_guarded | go_step))
          go_ret
          exact ⟨O, L, A', c', rfl, hok.out, hOw.out, by omega, (fun q hq => by have := hOs q hq; omega), Own.up hb3 hO⟩
end Go.Proofs.YtppbblgdcckbdaaDoor
