/- Joined: JnM EntP JnTk JnRd JnTo. -/
import Derived.Great.BuildSlice
import Derived.Test.YtgdapkglofchjaaGreatDoorE26
set_option maxRecDepth 100000
set_option maxHeartbeats 1000000
set_option linter.unusedVariables false
namespace Go.Proofs.YtgdapkglofchjaaGreatDoor
open Go.RowKit
theorem dec_back {l : List UInt8} {fs : List FV} (h : DecR l (.inr fs)) : encF fs = l ∧ validF fs = 0 ∧ lsz fs ≤ l.length := by
 rcases h with ⟨e, _, h⟩ | ⟨f, h1, ⟨_, h⟩ | ⟨_, _, h⟩ | ⟨_, hv, h⟩⟩
 ·cases h
 ·cases h
 ·cases h
 ·injection h with h
  subst h
  obtain ⟨a, b⟩ := fields_back h1
  refine ⟨?_, hv, by unfold lsz; rw [ofL_toL]; exact fieldsS_small h1⟩
  unfold encF recF
  rw [if_pos hv, ofL_toL, fix_of_fine _ _ b, a]
def tk (l : List UInt8) : Nat × Nat × List UInt8 :=
 if (takeU l).2.2 ≠ 0 then ((takeU l).2.2, 0, [])
 else if (l.drop (takeU l).2.1).length < (takeU l).1 + 4 then (4, 0, [])
 else if ((l.drop (takeU l).2.1).drop (takeU l).1).take 4 ≠ sum4 (crc ((l.drop (takeU l).2.1).take (takeU l).1)) then (6, 0, [])
 else (0, (takeU l).2.1 + (takeU l).1 + 4, (l.drop (takeU l).2.1).take (takeU l).1)
inductive RdR : List UInt8 → List (List FV) → Nat → Int → Prop
 | nil : RdR [] [] 0 0
 | stop {l : List UInt8} : l ≠ [] → (tk l).1 ≠ 0 → RdR l [] 0 ((tk l).1 : Int)
 | bad {l : List UInt8} {c : Int} : l ≠ [] → (tk l).1 = 0 → DecR (tk l).2.2 (.inl c) → RdR l [] 0 c
 | more {l : List UInt8} {fs : List FV} {es : List (List FV)} {n : Nat} {c : Int} : l ≠ [] → (tk l).1 = 0 → DecR (tk l).2.2 (.inr fs) → RdR (l.drop (tk l).2.1) es n c → RdR l (fs :: es) ((tk l).2.1 + n) c
theorem RdR.uniq {l : List UInt8} {es es' : List (List FV)} {n n' : Nat} {c c' : Int} (h : RdR l es n c) (h' : RdR l es' n' c') : es = es' ∧ n = n' ∧ c = c' := by
  induction h generalizing es' n' c' with
  | nil => cases h' with
    | nil => exact ⟨rfl, rfl, rfl⟩
    | stop h1 => exact absurd rfl h1
    | bad h1 => exact absurd rfl h1
    | more h1 => exact absurd rfl h1
  | stop h1 h2 => cases h' with
    | nil => exact absurd rfl h1
    | stop _ _ => exact ⟨rfl, rfl, rfl⟩
    | bad _ k => exact absurd k h2
    | more _ k => exact absurd k h2
  | bad h1 h2 h3 => cases h' with
    | nil => exact absurd rfl h1
    | stop _ k => exact absurd h2 k
    | bad _ _ k => have := h3.uniq k; injection this with this; exact ⟨rfl, rfl, this⟩
    | more _ _ k => have := h3.uniq k; cases this
  | more h1 h2 h3 _ ih => cases h' with
    | nil => exact absurd rfl h1
    | stop _ k => exact absurd h2 k
    | bad _ _ k => have := h3.uniq k; cases this
    | more _ _ k k2 =>
      have := h3.uniq k
      injection this with this
      obtain ⟨a, b, c⟩ := ih k2
      exact ⟨by rw [this, a], by rw [b], c⟩
structure EGood (fs : List FV) : Prop where
 ne : encF fs ≠ []
 len : (encF fs).length < 18446744073709551616
 dec : DecR (encF fs) (.inr fs)
theorem tk_form {x s r : List UInt8} {n : Nat} (hn : n < 18446744073709551616) (hx : x.length = n) (hs : s.length = 4) : tk (Lib.uvarint n ++ (x ++ (s ++ r))) = if s ≠ sum4 (crc x) then (6, 0, []) else (0, (Lib.uvarint n).length + n + 4, x) := by
 have h1 : (Lib.uvarint n ++ (x ++ (s ++ r))).drop (Lib.uvarint n).length = x ++ (s ++ r) := by simp
 have h2 : (x ++ (s ++ r)).drop n = s ++ r := by rw [← hx]; simp
 have h3 : (x ++ (s ++ r)).take n = x := by rw [← hx]; simp
 have h4 : (s ++ r).take 4 = s := by rw [← hs]; simp
 unfold tk
 rw [takeU_uvarint hn]
 simp only
 rw [h1, h2, h3, h4, if_neg (by simp), if_neg (by simp only [List.length_append]; omega)]
theorem tk_entry {x r : List UInt8} (h : x ≠ []) (hl : x.length < 18446744073709551616) : tk (entry x ++ r) = (0, (entry x).length, x) := by
 rw [entry_of h, List.append_assoc, List.append_assoc, tk_form hl rfl (sum4_length _), if_neg (by simp)]
 simp only [List.length_append, sum4_length, Prod.mk.injEq, and_true, true_and]
 omega
theorem ent_ne {fs : List FV} (h : EGood fs) : 0 < (ent fs).length := by
 unfold ent
 rw [entry_pos h.ne]
 omega
theorem rd_one {fs : List FV} {r : List UInt8} {es : List (List FV)} {n : Nat} {c : Int} (h : EGood fs) (hr : RdR r es n c) : RdR (ent fs ++ r) (fs :: es) ((ent fs).length + n) c := by
 have ht := tk_entry (r := r) h.ne h.len
 have hm := RdR.more (l := ent fs ++ r) (fs := fs) (es := es) (n := n) (c := c) (by have := ent_ne h; intro he; have := congrArg List.length he; rw [List.length_append] at this; simp only [List.length_nil] at this; omega) (by unfold ent; rw [ht]) (by unfold ent; rw [ht]; exact h.dec) (by unfold ent; rw [ht]; simpa using hr)
 have e : (tk (ent fs ++ r)).2.1 = (ent fs).length := by unfold ent; rw [ht]
 rwa [e] at hm
def RetTk (w : World) (l : List UInt8) (e : Ending) (w' : World) : Prop := ∃ (E : List Value) (k : Nat) (code : Int), e = .returned (.tuple #[.agg E.toArray, .int .i64 (k : Int), .int .i64 code]) ∧ Below w.heap.size w w' ∧
 ((code = 0 ∧ (tk l).1 = 0 ∧ k = (tk l).2.1 ∧ ∃ fs, DecR (tk l).2.2 (.inr fs) ∧ RecL evC w' (Fresh w w') fs E) ∨ (code ≠ 0 ∧ E = evZ ∧ (((tk l).1 ≠ 0 ∧ code = ((tk l).1 : Int)) ∨ ((tk l).1 = 0 ∧ DecR (tk l).2.2 (.inl code)))))
theorem run_res_three {P : Program} {fn : Func} {tmps : Array Value} {w : World} (slot s2 s3 : Nat) (ty : TypeId) (b o : Nat) (cs : List Value) (d : TypeDesc) (v u : Value) (hres : fn.results = #[.cell slot ty, .tmp s2, .tmp s3]) (ht : tmps[slot]?.getD undef = .pointer (some ⟨b, o, none⟩)) (hv : tmps[s2]?.getD undef = v) (hv2 : tmps[s3]?.getD undef = u) (hc : w.rangeAt b o cs)
  (hu : P.underlying ty = some d) (hd : d.isRow = true) (hi : (P.info? ty).map (·.size) = some cs.length) : (results fn tmps).run P w = .ok (.tuple #[.agg cs.toArray, v, u]) w := by
 have h := run_loadVar_mid (P := P) w b o ty cs d hc hu hd hi
 unfold results
 rw [hres]
 simp [asAddr, ht, h, hv, hv2, Result.andThen]
theorem yieldsIf_bytes_str {P : Program} {ops : Array Oper} {S : World → Prop} {op : Oper} {a : Act} (hw : Region.wanted op (yielded ops a.tmps) = true) {B n c : Nat} {A : Option Addr} {l : List UInt8} {src e dst : TypeId}
  (hs : P.underlying src = some (.slice e)) (he : P.underlying e = some (.int .u8)) (hd : P.underlying dst = some .string) (hS : ∀ w, S w → Seq w B 1 A n (l.map bv))
  {x : Operand} (ho : op.op = .convert src dst x) (hx : a.eval x = .slice A n c) : YieldsIf P ops S op (.string ⟨l.toArray⟩) a :=
 .inl ⟨hw, fun w hw' => by
  unfold execOp
  simp only [ho, hx, Sem.run_bind, Sem.run_pure, run_bytes_str (hS w hw') hs he hd, Result.andThen_ok]⟩
theorem tk_err {l : List UInt8} {a b k : Nat} (hT : takeU l = (a, b, k)) (hk : k ≠ 0) : tk l = (k, 0, []) := by
 unfold tk
 rw [hT, if_pos hk]
theorem tk_short {l : List UInt8} {a b : Nat} (hT : takeU l = (a, b, 0)) (h : l.length - b < a + 4) : tk l = (4, 0, []) := by
 unfold tk
 rw [hT, if_neg (by simp), if_pos (by rw [List.length_drop]; exact h)]
theorem tk_sum {l : List UInt8} {a b : Nat} (hT : takeU l = (a, b, 0)) (h : a + 4 ≤ l.length - b) (hs : ((l.drop b).drop a).take 4 ≠ sum4 (crc ((l.drop b).take a))) : tk l = (6, 0, []) := by
 unfold tk
 rw [hT, if_neg (by simp), if_neg (by rw [List.length_drop]; simp only; omega), if_pos hs]
theorem tk_ok {l : List UInt8} {a b : Nat} (hT : takeU l = (a, b, 0)) (h : a + 4 ≤ l.length - b) (hs : ((l.drop b).drop a).take 4 = sum4 (crc ((l.drop b).take a))) : tk l = (0, b + a + 4, (l.drop b).take a) := by
 unfold tk
 rw [hT, if_neg (by simp), if_neg (by rw [List.length_drop]; simp only; omega), if_neg (by simpa using hs)]
theorem ptake_any (l : List UInt8) (A : Option Addr) (n c : Nat) (w : World) (B : Nat) (hl : l.length = n) (hm : n ≤ 100000000) (hc : n ≤ c) (hB : B ≤ w.heap.size) (hs : Seq w B 1 A n (l.map bv)) : Calls Tryz.prog 54 #[.slice A n c] w (RetTk w l) := by
 subst hl
 go_enter Tryz.func54, Tryz.ntmps54
 go_upto_region 1 with (fail)
 generalize hx_ : World.alloc w _ = w1
 have hZ : Tgt w1 w.heap.size 0 evZ := by rw [← hx_]; exact Tgt.new w evZ.toArray _
 have hb1 : Below w.heap.size w w1 := by rw [← hx_]; exact (Below.refl _ _).alloc (Nat.le_refl _) _
 clear hx_
 have hs1 := hs.below (hb1.mono hB)
 have hiz : (Tryz.prog.info? 43).map (·.size) = some evZ.toArray.size := by kernel_rfl
 have hbt : ∀ a : Act, Tryz.prog.built 43 ((#[] : Array (Nat × Operand)).map fun (i, x) => (i, a.eval x)).toList = some evZ.toArray := fun _ => by kernel_rfl
 have hz1 := evZ_one
 have hz42 := evZ_len
 obtain ⟨Zc, hZc⟩ : ∃ Zc, Zc = evZ := ⟨_, rfl⟩
 rw [← hZc] at hZ hiz hz1 hz42
 simp only [← hZc] at hbt
 replace hiz := Lib.hid hiz
 replace hZc := Lib.hid hZc
 obtain ⟨a, b, k, hT⟩ : ∃ a b k, takeU l = (a, b, k) := ⟨_, _, _, rfl⟩
 have C := takeUint_any A l.length c l w1 B rfl (by omega) hs1
 rw [hT] at C
 have ha : a < 18446744073709551616 := by have := takeU_lt l; rw [hT] at this; exact this
 have hbl : k = 0 → 1 ≤ b ∧ b ≤ l.length := fun h => by have := takeU_len (l := l); rw [hT] at this; exact this h
 replace C := Lib.hid C
 replace hT := Lib.hid hT
 replace hbl := Lib.hid hbl
 repeat' (first | go_skip | go_guarded | go_step)
 refine C.out.mono ?_
 clear C
 unfold trip
 rintro e w2 ⟨rfl, rfl⟩
 dsimp only
 have hth := hZ.there (n := Zc.toArray.size) (Nat.le_refl _)
 have hfin : (w1.setCells w.heap.size 0 Zc.toArray.toList).rangeAt w.heap.size 0 Zc := World.rangeAt_setCells_same w1 w.heap.size 0 Zc hth
 have hbf : Below w.heap.size w (w1.setCells w.heap.size 0 Zc.toArray.toList) := setCells_below (Nat.le_refl _) _ _ _ hb1
 by_cases hk : k = 0
 ·subst hk
  obtain ⟨hb1', hb2'⟩ := hbl.out rfl
  clear hbl
  by_cases hma : l.length - b < a
  ·have hlt : (l.length : Int) - b < a := by omega
   repeat' (first | (refine wpList_build1 rfl 43 _ rfl (cells := Zc.toArray) (hbt _) ?_) | (refine wpList_store_mid rfl 43 _ _ rfl w.heap.size 0 Zc.toArray rfl rfl hth hiz.out hz1 ?_) | go_skip | go_guarded | go_step)
   refine bodyPost_ret (v := .tuple #[.agg Zc.toArray, .int .i64 0, .int .i64 4]) (run_res_three 2 3 4 43 w.heap.size 0 Zc _ _ _ rfl rfl rfl rfl hfin Tryz.underlying43 rfl hiz.out) rfl ?_
   exact ⟨Zc, 0, 4, rfl, hbf, Or.inr ⟨by decide, hZc.out, Or.inl ⟨by rw [tk_short hT.out (by omega)]; decide, by rw [tk_short hT.out (by omega)]; rfl⟩⟩⟩
  ·by_cases hma4 : l.length - b - a < 4
   ·have hlt : (a : Int) ≤ (l.length : Int) - b := by omega
    have hlt4 : (l.length : Int) - b - a < 4 := by omega
    repeat' (first | (refine wpList_build1 rfl 43 _ rfl (cells := Zc.toArray) (hbt _) ?_) | (refine wpList_store_mid rfl 43 _ _ rfl w.heap.size 0 Zc.toArray rfl rfl hth hiz.out hz1 ?_) | go_skip | go_guarded | go_step)
    refine bodyPost_ret (v := .tuple #[.agg Zc.toArray, .int .i64 0, .int .i64 4]) (run_res_three 2 3 4 43 w.heap.size 0 Zc _ _ _ rfl rfl rfl rfl hfin Tryz.underlying43 rfl hiz.out) rfl ?_
    exact ⟨Zc, 0, 4, rfl, hbf, Or.inr ⟨by decide, hZc.out, Or.inl ⟨by rw [tk_short hT.out (by omega)]; decide, by rw [tk_short hT.out (by omega)]; rfl⟩⟩⟩
   ·have hlt : (a : Int) ≤ (l.length : Int) - b := by omega
    have hlt4 : (4 : Int) ≤ (l.length : Int) - b - a := by omega
    go_upto_region 7 with (fail)
    have hs2' := hs1.cut (k := b) (cap := c) hb2' hc
    rw [Nat.mul_one, ← List.map_drop] at hs2'
    have hs2 : Seq w1 B 1 (if c = b then A else Option.map (fun x => x.add b) A) (l.length - b) ((l.drop b).map bv) := by simpa only [Nat.mul_one] using hs2'
    have hl1 : (l.drop b).length = l.length - b := List.length_drop
    have hc1 : l.length - b ≤ c - b := by omega
    have hn1 : a + 4 ≤ l.length - b := by omega
    have hnb : l.length - b ≤ 100000000 := by omega
    generalize (if c = b then A else Option.map (fun x => x.add b) A) = A1 at *
    generalize c - b = c1 at *
    clear hma hma4 hs1 hs hs2'
    generalize hn1' : l.length - b = n1 at *
    replace hn1' := Lib.hid hn1'
    have hx := seq_take hs2 (j := a) (by omega)
    have hy := hs2.sub1 (lo := a) (hi := a + 4) (by omega) hn1 hc1
    rw [← List.map_drop, ← List.map_take, show a + 4 - a = 4 by omega] at hy
    have hu4 : IntKind.u64.wrap ((a : Int) + 4) = (a : Int) + 4 := IntWalk.u64_in _ (by omega)
    have h4a : (a : Int) ≤ (a : Int) + 4 := by omega
    have h4n : (a : Int) + 4 ≤ n1 := by omega
    have h4c : (a : Int) + 4 ≤ c1 := by omega
    go_quiet (fail)
    rw [show a + 4 - a = 4 by omega]
    rw [if_neg (by omega)] at hy
    have hbq := Below.drewN w1 nq
    generalize w1.drewN nq = w2 at *
    generalize Option.map (fun x => x.add a) A1 = A2 at *
    have hBw : B ≤ w1.heap.size := Nat.le_trans hB hb1.size
    have hBw2 : B ≤ w2.heap.size := Nat.le_trans hBw hbq.size
    have hx2 := (hx.below (hbq.mono hBw)).more hBw2
    have hy2 := (hy.below (hbq.mono hBw)).more hBw2
    have hZ2 := hZ.below hbq
    have hbw2 : Below w.heap.size w w2 := hb1.trans (hbq.mono hb1.size)
    have hltw2 : w.heap.size < w2.heap.size := Nat.lt_of_lt_of_le hZ.lt hbq.size
    have hxl : ((l.drop b).take a).length = a := by rw [List.length_take, hl1]; omega
    clear hs2 hx hy hbq hZ hb1 hth hfin hbf hl1
    have htk : ((((l.drop b).drop a).take 4) = sum4 (crc ((l.drop b).take a)) → tk l = (0, b + a + 4, (l.drop b).take a)) ∧ ((((l.drop b).drop a).take 4) ≠ sum4 (crc ((l.drop b).take a)) → tk l = (6, 0, [])) := ⟨fun h => tk_ok hT.out (by have := hn1'.out; omega) h, fun h => tk_sum hT.out (by have := hn1'.out; omega) h⟩
    obtain ⟨X, hX⟩ : ∃ X, X = (l.drop b).take a := ⟨_, rfl⟩
    obtain ⟨Y, hY⟩ : ∃ Y, Y = ((l.drop b).drop a).take 4 := ⟨_, rfl⟩
    rw [← hX, ← hY] at htk
    rw [← hX] at hx2 hxl
    rw [← hY] at hy2
    replace htk := Lib.hid htk
    replace hxl := Lib.hid hxl
    clear hX hY
    go_upto_region 8 with (fail)
    have hS0 : (Below w2.heap.size w2 w2 ∧ True) := ⟨Below.refl _ _, trivial⟩
    have keepS : ∀ v1 v2 : World, (Below w2.heap.size w2 v1 ∧ True) → Below v1.heap.size v1 v2 → (Below w2.heap.size w2 v2 ∧ True) := fun v1 v2 h hb => ⟨h.1.trans (hb.mono h.1.size), trivial⟩
    have hS1 : (Below w2.heap.size w2 w2.drew ∧ True) := keepS _ _ hS0 ((Below.refl _ _).drew)
    replace keepS := Lib.hid keepS
    clear hS0
    refine wp_region_held_drew (S := fun w' => Below w2.heap.size w2 w' ∧ True) (by kernel_rfl) ?_ (fun hHeld => ?_)
    ·(try dsimp only)
     exact hS1
    refine tkY 0 (v := ?v1) rfl (.inl ⟨by rfl, ?hy1⟩) ?hr1
    case hy1 => (intro w hSw; (try dsimp only at hSw); go_simp; try with_reducible rfl)
    simp only [Act.put, Z1, Z2, Z4, Z5, Z6]
    refine tkY 1 (v := .string ⟨Y.toArray⟩) rfl (yieldsIf_bytes_str (by rfl) Tryz.underlying47 Tryz.underlying5 Tryz.underlying9 (fun v h => hy2.below h.1) rfl rfl) ?hr2
    simp only [Act.put, Z1, Z2, Z3, Z4, Z5, Z6]
    refine tkY 2 (v := ?v3) rfl (.inl ⟨by rfl, ?hy3⟩) ?hr3
    case hy3 => (intro w hSw; (try dsimp only at hSw); go_simp; try with_reducible rfl)
    simp only [Act.put, Z1, Z2, Z3, Z4, Z5, Z6]
    refine wpAnyH_ready (rs := [3]) (by kernel_rfl) (by simp) ?_
    refine AllReadyH.cons rfl (fun K hK => ?_) AllReadyH.nil
    go_simp
    go_at_call 51
    refine (checksum_any A1 a c1 X _ w2.heap.size hxl.out (by omega) (hx2.below hHeld.1)).mono ?_
    rintro e z1 ⟨A3, c3, rfl, hCk⟩
    dsimp only
    have hbq := hCk.2
    have hsk := hCk.seq
    rw [sum4_length] at hsk
    refine hK.out _ _ ?_ (fun hHeld => ?_)
    ·(try dsimp only)
     exact keepS.out _ _ hHeld hbq
    clear hK K
    try simp only [Act.put, Z1, Z2, Z3, Z4, Z5, Z6]
    refine wpAnyH_ready (rs := [4]) (by kernel_rfl) (by simp) ?_
    refine AllReadyH.cons rfl (fun K hK => ?_) AllReadyH.nil
    go_simp
    rw [run_bytes_str hsk Tryz.underlying47 Tryz.underlying5 Tryz.underlying9]
    simp only [Result.andThen, Oper.upon]
    have hbq := Below.refl z1.heap.size z1
    refine hK.out _ _ ?_ (fun hHeld => ?_)
    ·(try dsimp only)
     exact keepS.out _ _ hHeld hbq
    clear hK K
    try simp only [Act.put, Z4, Z5, Z6]
    refine tkY 5 (v := ?v4) rfl (.inl ⟨by rfl, ?hy4⟩) ?hr4
    case hy4 => (intro w hSw; (try dsimp only at hSw); go_simp; try with_reducible rfl)
    simp only [Act.put, Z1, Z2, Z3, Z4, Z5, Z6]
    refine wpAnyH_done (by kernel_rfl) ?_ _
    have hbW := hHeld.1
    clear hHeld hS1 keepS
    have hZ3 := hZ2.below hbW
    have hbw3 : Below w.heap.size w z1 := hbw2.trans (hbW.mono hbw2.size)
    by_cases hse : Y = sum4 (crc X)
    ·have hq : (Y == sum4 (crc X)) = true := by rw [hse]; exact beq_self_eq_true _
     simp only [hq, Bool.not_true]
     clear hq
     have ht := Lib.hid (htk.out.1 hse)
     have hx3 := (hx2.below hbW).more hbW.size
     have C := pdec_any X A1 a c1 z1 z1.heap.size hxl.out (by omega) (by omega) (Nat.le_refl _) hx3
     replace C := Lib.hid C
     replace hse := Lib.hid hse
     clear hx2 hy2 hx3 hsk hCk hZ2 hbW
     repeat' (first | go_skip | go_guarded | go_step)
     refine C.out.mono ?_
     clear C
     rintro e w4 ⟨E, code, rfl, hb4, hcase⟩
     dsimp only
     have hE42 : E.length = 42 := by
      rcases hcase with ⟨_, fs, _, hR⟩ | ⟨_, _, rfl⟩
      ·exact (hR.len evC_ok).1
      ·exact evZ_len
     have hE1 : E.toArray.all (·.oneCell') = true := by
      rcases hcase with ⟨_, fs, _, hR⟩ | ⟨_, _, rfl⟩
      ·simpa using hR.one evC_ok
      ·exact evZ_one
     replace hcase := Lib.hid hcase
     have hiE := Lib.hid (ev_info hE42)
     replace hE42 := Lib.hid hE42
     have hZ4 := hZ3.below hb4
     have hbw4 : Below w.heap.size w w4 := hbw3.trans (hb4.mono hbw3.size)
     have hT : Tgt (w4.alloc (.cells evZ.toArray 43)) w4.heap.size 0 evZ := Tgt.new w4 evZ.toArray _
     have hb5 : Below w4.heap.size w4 (w4.alloc (.cells evZ.toArray 43)) := (Below.refl _ _).alloc (Nat.le_refl _) _
     have hthT := hT.there (n := E.toArray.size) (by rw [List.size_toArray, hE42.out]; decide)
     have hA : ((w4.alloc (.cells evZ.toArray 43)).setCells w4.heap.size 0 E.toArray.toList).rangeAt w4.heap.size 0 E := World.rangeAt_setCells_same _ w4.heap.size 0 E hthT
     have hbE : Below w4.heap.size w4 ((w4.alloc (.cells evZ.toArray 43)).setCells w4.heap.size 0 E.toArray.toList) := setCells_below (Nat.le_refl _) _ _ _ hb5
     go_upto_region 11 with (first | (refine wpList_store_mid rfl 43 _ _ rfl w4.heap.size 0 E.toArray rfl rfl hthT hiE.out hE1 ?_))
     generalize hx_ : World.setCells _ _ _ _ = w5
     have hx2 : (w4.alloc (.cells evZ.toArray 43)).setCells w4.heap.size 0 E.toArray.toList = w5 := hx_
     rw [hx2] at hA hbE
     clear hx2 hx_ hthT hT hb5
     have hZ5 := hZ4.below hbE
     have hbw5 : Below w.heap.size w w5 := hbw4.trans (hbE.mono hbw4.size)
     have hth5 := hZ5.there (n := E.toArray.size) (by rw [List.size_toArray, hE42.out, hz42]; exact Nat.le_refl _)
     have hfin5 : (w5.setCells w.heap.size 0 E.toArray.toList).rangeAt w.heap.size 0 E := World.rangeAt_setCells_same w5 w.heap.size 0 E hth5
     have hbf5 : Below w.heap.size w (w5.setCells w.heap.size 0 E.toArray.toList) := setCells_below (Nat.le_refl _) _ _ _ hbw5
     have hltz : w.heap.size < z1.heap.size := hZ3.lt
     repeat' (first | (refine wpList_load_mid rfl 43 _ rfl w4.heap.size 0 rfl E _ hA Tryz.underlying43 rfl hiE.out ?_) | (refine wpList_store_mid rfl 43 _ _ rfl w.heap.size 0 E.toArray rfl rfl hth5 hiE.out hE1 ?_) | go_skip | go_guarded | go_step)
     refine bodyPost_ret (v := .tuple #[.agg E.toArray, .int .i64 ((b : Int) + a + 4), .int .i64 code]) (run_res_three 2 3 4 43 w.heap.size 0 E _ _ _ rfl rfl rfl rfl hfin5 Tryz.underlying43 rfl hiE.out) rfl ?_
     refine ⟨E, b + a + 4, code, by rw [show ((b + a + 4 : Nat) : Int) = (b : Int) + a + 4 by omega], hbf5, ?_⟩
     rcases hcase.out with ⟨h0, fs, h1, hR⟩ | ⟨h0, h1, h2⟩
     ·refine Or.inl ⟨h0, by rw [ht.out], by rw [ht.out], fs, by rw [ht.out]; exact h1, ?_⟩
      refine hR.map evC_ok (fun p hp => ?_) (fun b hb => ⟨?_, ?_⟩)
      ·have hp1 : p.block < w4.heap.size := hp.2
       have hp0 : z1.heap.size ≤ p.block := hp.1
       exact (World.cell?_setCells_out w.heap.size E.toArray.toList 0 w5 p (fun h => absurd h (by omega))).trans (hbE.cell hp1)
      ·have hp0 : z1.heap.size ≤ b := hb.1
       omega
      ·have hp1 : b < w4.heap.size := hb.2
       rw [setCells_size2]
       exact Nat.lt_of_lt_of_le hp1 hbE.size
     ·exact Or.inr ⟨h0, h2, Or.inr ⟨by rw [ht.out], by rw [ht.out]; exact h1⟩⟩
    ·have hq : (Y == sum4 (crc X)) = false := by rw [beq_eq_false_iff_ne]; exact hse
     simp only [hq, Bool.not_false]
     clear hq
     have ht := Lib.hid (htk.out.2 hse)
     clear hx2 hy2 hsk hCk hZ2 hbW
     have hth := hZ3.there (n := Zc.toArray.size) (Nat.le_refl _)
     have hfin : (z1.setCells w.heap.size 0 Zc.toArray.toList).rangeAt w.heap.size 0 Zc := World.rangeAt_setCells_same z1 w.heap.size 0 Zc hth
     have hbf : Below w.heap.size w (z1.setCells w.heap.size 0 Zc.toArray.toList) := setCells_below (Nat.le_refl _) _ _ _ hbw3
     repeat' (first | (refine wpList_build1 rfl 43 _ rfl (cells := Zc.toArray) (hbt _) ?_) | (refine wpList_store_mid rfl 43 _ _ rfl w.heap.size 0 Zc.toArray rfl rfl hth hiz.out hz1 ?_) | go_skip | go_guarded | go_step)
     refine bodyPost_ret (v := .tuple #[.agg Zc.toArray, .int .i64 0, .int .i64 6]) (run_res_three 2 3 4 43 w.heap.size 0 Zc _ _ _ rfl rfl rfl rfl hfin Tryz.underlying43 rfl hiz.out) rfl ?_
     exact ⟨Zc, 0, 6, rfl, hbf, Or.inr ⟨by decide, hZc.out, Or.inl ⟨by rw [ht.out]; decide, by rw [ht.out]; rfl⟩⟩⟩
 ·have hk0 : ((k : Int) == 0) = false := by simp; omega
  have hk1 : ((k : Int) != 0) = true := by simp; omega
  repeat' (first | (refine wpList_build1 rfl 43 _ rfl (cells := Zc.toArray) (hbt _) ?_) | (refine wpList_store_mid rfl 43 _ _ rfl w.heap.size 0 Zc.toArray rfl rfl hth hiz.out hz1 ?_) | go_skip | go_guarded | go_step)
  refine bodyPost_ret (v := .tuple #[.agg Zc.toArray, .int .i64 0, .int .i64 (k : Int)]) (run_res_three 2 3 4 43 w.heap.size 0 Zc _ _ _ rfl rfl rfl rfl hfin Tryz.underlying43 rfl hiz.out) rfl ?_
  exact ⟨Zc, 0, (k : Int), rfl, hbf, Or.inr ⟨by omega, hZc.out, Or.inl ⟨by rw [tk_err hT.out hk]; exact hk, by rw [tk_err hT.out hk]⟩⟩⟩
theorem wpList_slice1 {P : Program} {ops : Array Oper} {rest : List Oper} {o : Oper} {a : Act} {w : World} {Q : Exit → Act → World → Prop} (hg : o.guard = none) (t e : TypeId) (x : Operand) (ho : o.op = .buildSlice t 1 #[(0, x)]) (E : List Value) (hx : a.eval x = .agg E.toArray)
  (hu : P.underlying t = some (.slice e)) (hsz : (P.info? e).map (·.size) = some E.length) (hz : ((P.info? e).bind (·.zero)).isSome = true) (hpos : 0 < E.length) (hsmall : E.length ≤ 1000)
  (h : wpList P ops Q rest (a.put o.dst (.slice (some ⟨w.heap.size, 0, none⟩) 1 1)) (w.alloc (.cells E.toArray e))) : wpList P ops Q (o :: rest) a w := by
 cases hie : P.info? e with
 | none => simp [hie] at hsz
 | some ie =>
  simp only [hie, Option.map_some, Option.some.injEq, Option.bind_some] at hsz hz
  obtain ⟨z, hzz⟩ := Option.isSome_iff_exists.1 hz
  refine wpList_buildSlice hg t e 1 #[(0, x)] ho _ ie z hu hie hzz (by rw [hsz]; omega) (by rw [hsz]; omega) ?_ h
  have hp : ((#[(0, x)] : Array (Nat × Operand)).map fun (i, x) => (i, a.eval x)).toList = (([.agg E.toArray] : List Value).zipIdx 0).map fun x => (x.2, x.1) := by simp [hx]
  rw [hp, hsz]
  rw [Great.fill_whole hpos [.agg E.toArray] _ (fun v hv => by rw [List.mem_singleton.1 hv]; simp [Value.cells]) (by simp)]
  simp [Value.cells]
theorem ev_inf : Info Tryz.prog 43 (.agg evZ.toArray) 42 584 := by unfold Info; kernel_rfl
def rEvR : Rd (List FV) := fun w S fs cs => RecL evC w S fs cs ∧ lsz fs ≤ 1000000000
theorem rEvR_ok : RdOk rEvR := fun _ _ _ _ _ _ hk hS h => ⟨h.1.map evC_ok hk hS, h.2⟩
abbrev EvQ (w : World) (A : Option Addr) (n c : Nat) (L : List (List FV)) : Prop := RSlice rEvR 42 w (fun b => b < w.heap.size) A n c L
theorem EvQ.up {w z : World} {A : Option Addr} {n c : Nat} {L : List (List FV)} (h : EvQ w A n c L) (hb : Below w.heap.size w z) : EvQ z A n c L := (RSlice.below rEvR_ok h hb).more rEvR_ok (fun _ hb' => Nat.lt_of_lt_of_le hb' hb.size)
def RetRd (w : World) (l : List UInt8) (e : Ending) (w' : World) : Prop := ∃ (A : Option Addr) (c : Nat) (es : List (List FV)) (n : Nat) (code : Int), e = .returned (.tuple #[.slice A es.length c, .int .i64 (n : Int), .int .i64 code]) ∧ RdR l es n code ∧ EvQ w' A es.length c es ∧ Below w.heap.size w w'
theorem tk_len {l : List UInt8} (h : (tk l).1 = 0) : 5 ≤ (tk l).2.1 ∧ (tk l).2.1 ≤ l.length ∧ (tk l).2.2.length ≤ l.length := by
 obtain ⟨a, b, k, hT⟩ : ∃ a b k, takeU l = (a, b, k) := ⟨_, _, _, rfl⟩
 by_cases hk : k = 0
 ·subst hk
  have hb := takeU_len (l := l) (by rw [hT])
  rw [hT] at hb
  by_cases h4 : l.length - b < a + 4
  ·rw [tk_short hT h4] at h; cases h
  ·by_cases hs : ((l.drop b).drop a).take 4 = sum4 (crc ((l.drop b).take a))
   ·rw [tk_ok hT (by omega) hs]
    simp only [List.length_take, List.length_drop] at hb ⊢
    omega
   ·rw [tk_sum hT (by omega) hs] at h; cases h
 ·rw [tk_err hT hk] at h
  exact absurd h hk
theorem dec_small {x : List UInt8} {fs : List FV} (h : DecR x (.inr fs)) : lsz fs ≤ x.length := (dec_back h).2.2
theorem pread_any (l : List UInt8) (A : Option Addr) (n c : Nat) (w : World) (hl : l.length = n) (hm : n ≤ 100000000) (hc : n ≤ c) (hs : Seq w w.heap.size 1 A n (l.map bv)) : Calls Tryz.prog 23 #[.slice A n c] w (RetRd w l) := by
 subst hl
 go_enter Tryz.func23, Tryz.ntmps23
 repeat' (first | go_skip | go_guarded | go_step)
 go_loopw [5, 6] (fun u5 u6 wr => ∃ (es : List (List FV)) (k : Nat), k ≤ l.length ∧ u6 = .int .i64 (k : Int) ∧ OwnR rEvR 42 w wr 43 u5 es ∧ es.length ≤ k ∧ (∀ es2 m q, RdR (l.drop k) es2 m q → RdR l (es ++ es2) (k + m) q)) (fun _ u6 _ => l.length - (intOf u6).toNat)
 case atStart => exact ⟨[], 0, by omega, rfl, OwnR.nil w _, by simp, fun es2 m q h => by simpa using h⟩
 case round =>
  obtain ⟨es, k, hk, rfl, hO, hlen, himp⟩ := hrel
  have himp := Lib.hid himp
  obtain ⟨A5, c5, rfl⟩ := hO.form
  by_cases hlt : k < l.length
  ·have hd : (decide ((k : Int) < l.length)) = true := by simp; omega
   have hbr := hO.bel
   have hcut := Seq.cut ((hs.below hbr).more hbr.size) (k := k) (cap := c) hk hc
   have hcut : Seq wr wr.heap.size 1 (if c = k then A else Option.map (fun x => x.add k) A) (l.length - k) ((l.drop k).map bv) := by simpa only [Nat.mul_one, ← List.map_drop] using hcut
   rw [if_neg (by omega)] at hcut
   have C := ptake_any (l.drop k) _ (l.length - k) (c - k) wr wr.heap.size List.length_drop (by omega) (by omega) (Nat.le_refl _) hcut
   have hne : l.drop k ≠ [] := fun h => by have := congrArg List.length h; rw [List.length_drop] at this; simp only [List.length_nil] at this; omega
   replace C := Lib.hid C
   replace hne := Lib.hid hne
   clear hcut
   have hkc : (k : Int) ≤ (c : Int) := by omega
   repeat' (first | go_skip | go_guarded | go_step)
   refine C.out.mono ?_
   clear C
   rintro e w2 ⟨E, tn, code, rfl, hb2, hcase⟩
   dsimp only
   have hE42 : E.length = 42 := by
    rcases hcase with ⟨_, _, _, fs, _, hR⟩ | ⟨_, rfl, _⟩
    ·exact (hR.len evC_ok).1
    ·exact evZ_len
   have hE1 : E.toArray.all (·.oneCell') = true := by
    rcases hcase with ⟨_, _, _, fs, _, hR⟩ | ⟨_, rfl, _⟩
    ·simpa using hR.one evC_ok
    ·exact evZ_one
   replace hcase := Lib.hid hcase
   have hiE := Lib.hid (ev_info hE42)
   replace hE42 := Lib.hid hE42
   have hbw2 : Below w.heap.size w w2 := hbr.trans (hb2.mono hbr.size)
   have hT : Tgt (w2.alloc (.cells evZ.toArray 43)) w2.heap.size 0 evZ := Tgt.new w2 evZ.toArray _
   have hb5 : Below w2.heap.size w2 (w2.alloc (.cells evZ.toArray 43)) := (Below.refl _ _).alloc (Nat.le_refl _) _
   have hthT := hT.there (n := E.toArray.size) (by rw [List.size_toArray, hE42.out]; decide)
   have hA : ((w2.alloc (.cells evZ.toArray 43)).setCells w2.heap.size 0 E.toArray.toList).rangeAt w2.heap.size 0 E := World.rangeAt_setCells_same _ w2.heap.size 0 E hthT
   have hbE : Below w2.heap.size w2 ((w2.alloc (.cells evZ.toArray 43)).setCells w2.heap.size 0 E.toArray.toList) := setCells_below (Nat.le_refl _) _ _ _ hb5
   go_upto_region 5 with (first | (refine wpList_store_mid rfl 43 _ _ rfl w2.heap.size 0 E.toArray rfl rfl hthT hiE.out hE1 ?_))
   generalize hx_ : World.setCells _ _ _ _ = w3
   have hx2 : (w2.alloc (.cells evZ.toArray 43)).setCells w2.heap.size 0 E.toArray.toList = w3 := hx_
   rw [hx2] at hA hbE
   clear hx2 hx_ hthT hT hb5
   have hb23 : Below wr.heap.size wr w3 := hb2.trans (hbE.mono hb2.size)
   by_cases h0 : code = 0
   ·obtain ⟨ht1, rfl, fs, hD, hR⟩ : (tk (l.drop k)).1 = 0 ∧ tn = (tk (l.drop k)).2.1 ∧ ∃ fs, DecR (tk (l.drop k)).2.2 (.inr fs) ∧ RecL evC w2 (Fresh wr w2) fs E := by
     rcases hcase.out with ⟨_, h1, h2, h3⟩ | ⟨h1, _⟩
     ·exact ⟨h1, h2, h3⟩
     ·exact absurd h0 h1
    have htl := tk_len ht1
    have hsz := dec_small hD
    have hstep : ∀ es2 m q, RdR (l.drop (k + (tk (l.drop k)).2.1)) es2 m q → RdR l ((es ++ [fs]) ++ es2) (k + (tk (l.drop k)).2.1 + m) q := fun es2 m q h => by
     have h2 := himp.out (fs :: es2) _ _ (RdR.more hne.out ht1 hD (by rw [List.drop_drop]; exact h))
     rw [List.append_assoc, Nat.add_assoc]
     exact h2
    rw [List.length_drop] at htl
    have hx : rEvR w3 (Beh w3 (.slice A5 es.length c5)) fs E.toArray.toList := ⟨hR.map evC_ok (fun p hp => hbE.cell hp.2) (fun b hb => beh_lo hO hb.1 (Nat.lt_of_lt_of_le hb.2 hbE.size)), by omega⟩
    subst h0
    replace hstep := Lib.hid hstep
    generalize (tk (l.drop k)).2.1 = tn at *
    have hnb : (es.length + 1) * 584 ≤ 140737488355328 := by omega
    clear hcase ht1 hD hR hsz
    repeat' ((fail_if_success at_builtin); (first | (refine wpList_load_mid rfl 43 _ rfl w2.heap.size 0 rfl E _ hA Tryz.underlying43 rfl hiE.out ?_) | (refine wpList_slice1 rfl 58 43 _ rfl E rfl Tryz.underlying58 hiE.out (by kernel_rfl) (by rw [hE42.out]; decide) (by rw [hE42.out]; decide) ?_) | go_skip | go_guarded | go_step))
    refine wp_appR1 rEvR_ok hO hb23 hx Tryz.underlying58 ev_inf hnb ?_ (hcs := by rw [List.size_toArray]; exact hE42.out) (h1 := by simpa using hE1)
    intro v5 w5 hO5
    obtain ⟨A6, c6, rfl⟩ := hO5.form
    repeat' (first | go_skip | go_guarded | go_step)
    go_roundw
    case rel => exact ⟨es ++ [fs], k + tn, by omega, by go_num, (by rw [List.length_append] at hO5; exact hO5), by rw [List.length_append]; simp only [List.length_cons, List.length_nil]; omega, hstep.out⟩
    case measure => simp [intOf]; omega
   ·have z1 : (code == 0) = false := by simpa using h0
    have z2 : (code != 0) = true := by simpa using h0
    have hlast : RdR (l.drop k) [] 0 code := by
     rcases hcase.out with ⟨h1, _⟩ | ⟨_, _, ⟨h1, h2⟩ | ⟨h1, h2⟩⟩
     ·exact absurd h1 h0
     ·rw [h2]; exact RdR.stop hne.out h1
     ·exact RdR.bad hne.out h1 h2
    have hfin := himp.out [] 0 code hlast
    rw [List.append_nil, Nat.add_zero] at hfin
    replace hfin := Lib.hid hfin
    clear hlast hcase
    repeat' (first | go_skip | go_guarded | go_step)
    go_ret3
    exact ⟨A5, c5, es, k, code, rfl, hfin.out, (EvQ.up (hO.slice rEvR_ok) hb23), hbr.trans (hb23.mono hbr.size)⟩
  ·have hd : (decide ((k : Int) < l.length)) = false := by simp; omega
   have hfin := himp.out [] 0 0 (by rw [List.drop_of_length_le (by omega)]; exact RdR.nil)
   rw [List.append_nil, Nat.add_zero] at hfin
   replace hfin := Lib.hid hfin
   have hk0 : k = l.length := by omega
   repeat' (first | go_skip | go_guarded | go_step)
   go_ret3
   exact ⟨A5, c5, es, k, 0, rfl, hfin.out, (hO.slice rEvR_ok), hO.bel⟩
theorem flat_snoc (V : List (List FV)) (fs : List FV) : Go.Proofs.YtgdapkglofchjaaGreatDoor.flat (V ++ [fs]) = Go.Proofs.YtgdapkglofchjaaGreatDoor.flat V ++ ent fs := by
 rw [flat_app]
 unfold Go.Proofs.YtgdapkglofchjaaGreatDoor.flat
 simp
theorem egood {w : World} {fs : List FV} {E : List Value} (h : EvR w fs E) (hz : lsz fs ≤ 9000000) (hv : validF fs = 0) : EGood fs := ⟨fun e => by have := encF_ne hv; rw [e] at this; simp at this, by have := encF_len h; omega, (enc_back h hv).2.2⟩
theorem ent_pos {fs : List FV} (h : encF fs ≠ []) : 0 < (ent fs).length := by unfold ent; rw [entry_pos h]; omega
end Go.Proofs.YtgdapkglofchjaaGreatDoor
