/- Typing: the document's read. -/
import Derived.Test.YtgcpffbaejodiaaDoorTyPa
import Derived.Test.YtgcpffbaejodiaaDoorTyRs
namespace Go.Proofs.YtgcpffbaejodiaaDoor
open Go.RowKit
def kinds8 : List Nat := [0, 1, 2, 3, 4, 5, 6, 7]
theorem kinds_drop {i : Nat} (h : i < 8) : kinds8.drop i = i :: kinds8.drop (i + 1) := by
 have : i = 0 ∨ i = 1 ∨ i = 2 ∨ i = 3 ∨ i = 4 ∨ i = 5 ∨ i = 6 ∨ i = 7 := by omega
 rcases this with rfl | rfl | rfl | rfl | rfl | rfl | rfl | rfl <;> rfl
theorem readF_cons (k : Nat) (ks : List Nat) (s : List UInt8) : VT.readF (k :: ks) s = match VT.stepK k s with
  | some v => some v
  | none => VT.readF ks s := rfl
/-- a type and whether there is one, the type all new -/
def RetR (w : World) (o : Option VT) (e : Ending) (w' : World) : Prop := ∃ A n c, e = .returned (.tuple #[.agg #[.int .i64 ((o.getD (.base 0)).kind : Int), .slice A n c], .bool o.isSome]) ∧ RV w' (fun b => w.heap.size ≤ b ∧ b < w'.heap.size) (o.getD (.base 0)) [.int .i64 ((o.getD (.base 0)).kind : Int), .slice A n c] ∧ Below w.heap.size w w'
theorem retR_zero {w w' : World} {o : Option VT} {e : Ending} (ho : o = none) (hb : Below w.heap.size w w') (h : e = .returned (.tuple #[.agg #[.int .i64 0, .slice none 0 0], .bool false])) : RetR w o e w' := by
 subst ho
 exact ⟨none, 0, 0, h, rv_scalar _ _ 0, hb⟩
theorem retR_some {w w' : World} {o : Option VT} {v : VT} {e : Ending} {A : Option Addr} {n c : Nat} (ho : o = some v) (hb : Below w.heap.size w w') (h : e = .returned (.tuple #[.agg #[.int .i64 (v.kind : Int), .slice A n c], .bool true])) (hr : RV w' (fun b => w.heap.size ≤ b ∧ b < w'.heap.size) v [.int .i64 (v.kind : Int), .slice A n c]) : RetR w o e w' := by
 subst ho
 exact ⟨A, n, c, h, hr, hb⟩
theorem stepK_base {k : Nat} {s : List UInt8} (h : ¬ (k = 5 ∨ k = 6)) : VT.stepK k s = if s = VT.nameK k then some (.base k) else none := by unfold VT.stepK; rw [if_neg h]
theorem stepK_doc {k : Nat} {s : List UInt8} (hk : k = 5 ∨ k = 6) (h : VT.docC k s) : VT.stepK k s = (VT.parse ((s.take (s.length - 1)).drop ((VT.nameK k).length + 1))).map (.of k) := by
 unfold VT.stepK
 rw [if_pos hk, VT.docC_open h]
 rfl
theorem sub_list (s : ByteArray) (a : Nat) : (s.extract a (s.size - 1)).data.toList = (s.data.toList.take (s.data.toList.length - 1)).drop a := by
 rw [Lib.extract_data, list_size, List.drop_take]
set_option maxRecDepth 100000 in
set_option maxHeartbeats 6000000 in
theorem read_any (N : Nat) : ∀ (s : ByteArray) (w : World), s.size < N → s.size ≤ 100000 → Calls Tryd.prog 50 #[.string s] w fun e w' => RetR w (VT.parse s.data.toList) e w' := by
 induction N with
 | zero => intro s w h; omega
 | succ N ih =>
  intro s w hN hmx
  have hsl := list_size s
  obtain ⟨fin, hfin⟩ : ∃ fin, fin = VT.parse s.data.toList := ⟨_, rfl⟩
  rw [← hfin]
  have hr0 : VT.readF kinds8 s.data.toList = fin := by rw [hfin]; exact VT.read_parse _
  clear hfin
  replace ih := Lib.hid ih
  go_enter Tryd.func50, Tryd.ntmps50
  go_upto_region 1 with (fail)
  generalize hx_ : World.alloc w _ = wo1
  have hO1 : OwnB w wo1 [(w.heap.size, [.int .i64 0, .slice none 0 0])] := by rw [← hx_]; exact (OwnB.refl w).new #[.int .i64 0, .slice none 0 0] _ (g := w.heap.size)
  clear hx_
  have c0_0 := hO1.c 0 0
  have c0_1 := hO1.c 0 1
  have cf0 := hO1.fr 0
  repeat' ((fail_if_success at_builtin); (first | go_skip | go_guarded | go_step))
  go_loopw [4] (fun u4 wr => ∃ z : Int, 0 ≤ z ∧ z ≤ 8 ∧ u4 = .int .i64 z ∧ OwnB w wr [(w.heap.size, [.int .i64 0, .slice none 0 0])] ∧ VT.readF (kinds8.drop z.toNat) s.data.toList = fin) (fun u4 _ => 8 - (intOf u4).toNat)
  case atStart => exact ⟨0, by decide, by decide, rfl, hO1, hr0⟩
  case round =>
   clear c0_0 c0_1 cf0 hO1 hr0
   obtain ⟨z, hz0, hz8, rfl, hO2, hu⟩ := hrel
   have c0_0 := hO2.c 0 0
   have c0_1 := hO2.c 0 1
   have cf0 := hO2.fr 0
   by_cases hlt : z < 8
   ·
    have i7 : z ≤ 7 := by omega
    have i2 : IntKind.i64.wrap (z + 1) = z + 1 := IntWalk.i64_in _ (by omega)
    have hzn : (z + 1).toNat = z.toNat + 1 := by omega
    rw [kinds_drop (show z.toNat < 8 by omega), readF_cons, ← hzn] at hu
    repeat' ((fail_if_success at_builtin); (first | go_skip | go_guarded | go_step))
    refine (holds_any z _).mono ?_
    rintro e w3 ⟨rfl, hb3⟩
    dsimp only
    have hO3 : OwnB w w3 [(w.heap.size, [.int .i64 0, .slice none 0 0])] := hO2.kept hb3
    clear c0_0 c0_1 cf0 hO2
    have c0_0 := hO3.c 0 0
    have c0_1 := hO3.c 0 1
    have cf0 := hO3.fr 0
    by_cases h56 : z = 5 ∨ z = 6
    ·
     have hh : holdsK z = true := by unfold holdsK; simp; omega
     rw [hh]
     clear hh
     rcases h56 with rfl | rfl
     ·
      rw [show (5 : Int).toNat = 5 from rfl] at hu
      repeat' ((fail_if_success at_builtin); (first | go_skip | go_guarded | go_step))
      refine (rname_any (k := 5) (by decide) _).mono ?_
      rintro e w4 ⟨rfl, hb4⟩
      dsimp only
      have hO4 : OwnB w w4 [(w.heap.size, [.int .i64 0, .slice none 0 0])] := hO3.kept hb4
      clear c0_0 c0_1 cf0 hO3
      have c0_0 := hO4.c 0 0
      have c0_1 := hO4.c 0 1
      have cf0 := hO4.fr 0
      have hnml : (strS (VT.nameK 5)).data.toList = VT.nameK 5 := rfl
      have hnsz : (strS (VT.nameK 5)).size = 4 := rfl
      have CN := fun w' => rname_any (k := 5) (by decide) w'
      generalize hnm : strS (VT.nameK 5) = nmS at *
      replace CN := Lib.hid CN
      replace hnml := Lib.hid hnml
      replace hnm := Lib.hid hnm
      have hw6 : IntKind.i64.wrap 6 = 6 := IntWalk.i64_in _ (by decide)
      have hdn : ∀ h : ¬ (6 < s.size ∧ (s.extract 0 4).toList = nmS.toList ∧ s.data.toList[4]? = some 40 ∧ s.data.toList[s.size - 1]? = some 41), ¬ VT.docC 5 s.data.toList := fun h hd => h ⟨by have := hd.1; rw [show (VT.nameK 5).length = 4 from rfl] at this; omega, by
       have := hd.2.1
       rw [show (VT.nameK 5).length = 4 from rfl] at this
       rw [Lib.extract_toList, List.drop_zero, Nat.sub_zero, this, ByteArray.toList_eq, hnml.out], hd.2.2.1, by rw [← hsl]; exact hd.2.2.2⟩
      have hdy : (6 < s.size ∧ (s.extract 0 4).toList = nmS.toList ∧ s.data.toList[4]? = some 40 ∧ s.data.toList[s.size - 1]? = some 41) → VT.docC 5 s.data.toList := fun h => ⟨by rw [show (VT.nameK 5).length = 4 from rfl]; omega, by
       have := h.2.1
       rw [Lib.extract_toList, List.drop_zero, Nat.sub_zero, ByteArray.toList_eq, hnml.out] at this
       exact this, h.2.2.1, by rw [hsl]; exact h.2.2.2⟩
      replace hdn := Lib.hid hdn
      replace hdy := Lib.hid hdy
      by_cases k1 : 6 < s.size
      ·
       have g1 : (6 : Int) < (s.size : Int) := by omega
       have hx0 : 4 ≤ s.size := by omega
       have hx1 : (4 : Int) ≤ (s.size : Int) := by omega
       have hx2 : 4 < s.size := by omega
       have hx3 : (4 : Int) < (s.size : Int) := by omega
       have hx4 : IntKind.i64.wrap ((s.size : Int) - 1) = ((s.size - 1 : Nat) : Int) := by rw [IntWalk.i64_in _ (by omega)]; omega
       have hx5 : (0 : Int) ≤ ((s.size - 1 : Nat) : Int) := by omega
       have hx6 : ((s.size - 1 : Nat) : Int) < (s.size : Int) := by omega
       have hx7 : s.size - 1 < s.size := by omega
       have ha1 := str_at hx2
       have ha2 := str_at hx7
       replace ha1 := Lib.hid ha1
       replace ha2 := Lib.hid ha2
       by_cases k2 : (s.extract 0 4).toList = nmS.toList
       ·
        have q2 : ((s.extract 0 4).toList == nmS.toList) = true := by rw [k2]; simp
        replace k2 := Lib.hid k2
        by_cases k3 : s[4]'hx2 = 40
        ·
         have q3 : (((s[4]'hx2).toNat : Int) == 40) = true := by rw [k3]; rfl
         replace k3 := Lib.hid k3
         by_cases k4 : s[s.size - 1]'hx7 = 41
         ·
          have q4 : (((s[s.size - 1]'hx7).toNat : Int) == 41) = true := by rw [k4]; rfl
          have hyd := hdy.out ⟨k1, k2.out, by rw [ha1.out, k3.out], by rw [ha2.out, k4]⟩
          replace k4 := Lib.hid k4
          replace hyd := Lib.hid hyd
          clear hdn hdy
          go_upto_region 8 with (fail)
          refine wp_region_held_drew (S := fun w' => OwnB w w' [(w.heap.size, [.int .i64 0, .slice none 0 0])]) (by kernel_rfl) ?_ (fun hHeld => ?_)
          ·
           (try dsimp only)
           exact hO4.drew
          refine tkY 0 (v := ?v21) rfl (.inl ⟨by rfl, ?hy21⟩) ?rest21
          case hy21 => (intro w hSw; (try dsimp only at hSw); go_simp; try with_reducible rfl)
          simp only [Act.put, List.getElem_toArray, List.getElem_cons_zero, List.setIfInBounds_toArray, List.set_cons_zero, List.set_cons_succ]
          refine tkY 1 (v := ?v22) rfl (.inl ⟨by rfl, ?hy22⟩) ?rest22
          case hy22 => (intro w hSw; (try dsimp only at hSw); go_simp; try with_reducible rfl)
          simp only [Act.put, List.getElem_toArray, List.getElem_cons_zero, List.getElem_cons_succ, List.setIfInBounds_toArray, List.set_cons_zero, List.set_cons_succ]
          refine tkY 2 (v := ?v23) rfl (.inl ⟨by rfl, ?hy23⟩) ?rest23
          case hy23 => (intro w hSw; (try dsimp only at hSw); go_simp; try with_reducible rfl)
          simp only [Act.put, List.getElem_toArray, List.getElem_cons_zero, List.getElem_cons_succ, List.setIfInBounds_toArray, List.set_cons_zero, List.set_cons_succ]
          refine tkY 3 (v := ?v24) rfl (.inl ⟨by rfl, ?hy24⟩) ?rest24
          case hy24 => (intro w hSw; (try dsimp only at hSw); go_simp; try with_reducible rfl)
          simp only [Act.put, List.getElem_toArray, List.getElem_cons_zero, List.getElem_cons_succ, List.setIfInBounds_toArray, List.set_cons_zero, List.set_cons_succ]
          refine tkY 4 (v := ?v25) rfl (.inl ⟨by rfl, ?hy25⟩) ?rest25
          case hy25 => (intro w hSw; (try dsimp only at hSw); go_simp; try with_reducible rfl)
          simp only [Act.put, List.getElem_toArray, List.getElem_cons_zero, List.getElem_cons_succ, List.setIfInBounds_toArray, List.set_cons_zero, List.set_cons_succ]
          refine tkY 5 (v := ?v26) rfl (.inl ⟨by rfl, ?hy26⟩) ?rest26
          case hy26 => (intro w hSw; (try dsimp only at hSw); go_simp; try with_reducible rfl)
          simp only [Act.put, List.getElem_toArray, List.getElem_cons_zero, List.getElem_cons_succ, List.setIfInBounds_toArray, List.set_cons_zero, List.set_cons_succ]
          refine tkY 6 (v := ?v27) rfl (.inl ⟨by rfl, ?hy27⟩) ?rest27
          case hy27 => (intro w hSw; (try dsimp only at hSw); go_simp; try with_reducible rfl)
          simp only [Act.put, List.getElem_toArray, List.getElem_cons_zero, List.getElem_cons_succ, List.setIfInBounds_toArray, List.set_cons_zero, List.set_cons_succ]
          refine tkY 7 (v := ?v28) rfl (.inl ⟨by rfl, ?hy28⟩) ?rest28
          case hy28 => (intro w hSw; (try dsimp only at hSw); go_simp; try with_reducible rfl)
          simp only [Act.put, List.getElem_toArray, List.getElem_cons_zero, List.getElem_cons_succ, List.setIfInBounds_toArray, List.set_cons_zero, List.set_cons_succ]
          refine tkY 8 (v := ?v29) rfl (.inl ⟨by rfl, ?hy29⟩) ?rest29
          case hy29 => (intro w hSw; (try dsimp only at hSw); go_simp; try with_reducible rfl)
          simp only [Act.put, List.getElem_toArray, List.getElem_cons_zero, List.getElem_cons_succ, List.setIfInBounds_toArray, List.set_cons_zero, List.set_cons_succ]
          refine tkY 9 (v := ?v30) rfl (.inl ⟨by rfl, ?hy30⟩) ?rest30
          case hy30 => (intro w hSw; (try dsimp only at hSw); go_simp; try with_reducible rfl)
          simp only [Act.put, List.getElem_toArray, List.getElem_cons_zero, List.getElem_cons_succ, List.setIfInBounds_toArray, List.set_cons_zero, List.set_cons_succ]
          refine wpAnyH_ready (rs := [10]) (by kernel_rfl) (by simp) ?_
          refine AllReadyH.cons rfl (fun K hK => ?_) AllReadyH.nil
          go_simp
          go_at_call 60
          refine (CN.out _).mono ?_
          rintro e7 w7 ⟨rfl, hbq⟩
          dsimp only
          refine hK.out _ _ ?_ (fun hHeld => ?_)
          ·
           (try dsimp only)
           exact hHeld.kept hbq
          clear hK K
          try simp only [Act.put, List.getElem_toArray, List.getElem_cons_zero, List.getElem_cons_succ, List.setIfInBounds_toArray, List.set_cons_zero, List.set_cons_succ]
          refine tkY 11 (v := ?v31) rfl (.inl ⟨by rfl, ?hy31⟩) ?rest31
          case hy31 => (intro w hSw; (try dsimp only at hSw); go_simp; try with_reducible rfl)
          simp only [Act.put, List.getElem_toArray, List.getElem_cons_zero, List.getElem_cons_succ, List.setIfInBounds_toArray, List.set_cons_zero, List.set_cons_succ]
          refine tkY 12 (v := ?v32) rfl (.inl ⟨by rfl, ?hy32⟩) ?rest32
          case hy32 => (intro w hSw; (try dsimp only at hSw); go_simp; try with_reducible rfl)
          simp only [Act.put, List.getElem_toArray, List.getElem_cons_zero, List.getElem_cons_succ, List.setIfInBounds_toArray, List.set_cons_zero, List.set_cons_succ]
          refine tkY 13 (v := ?v33) rfl (.inl ⟨by rfl, ?hy33⟩) ?rest33
          case hy33 => (intro w hSw; (try dsimp only at hSw); go_simp; try with_reducible rfl)
          simp only [Act.put, List.getElem_toArray, List.getElem_cons_zero, List.getElem_cons_succ, List.setIfInBounds_toArray, List.set_cons_zero, List.set_cons_succ]
          refine tkY 14 (v := ?v34) rfl (.inl ⟨by rfl, ?hy34⟩) ?rest34
          case hy34 => (intro w hSw; (try dsimp only at hSw); go_simp; try with_reducible rfl)
          simp only [Act.put, List.getElem_toArray, List.getElem_cons_zero, List.getElem_cons_succ, List.setIfInBounds_toArray, List.set_cons_zero, List.set_cons_succ]
          refine tkY 15 (v := ?v35) rfl (.inl ⟨by rfl, ?hy35⟩) ?rest35
          case hy35 => (intro w hSw; (try dsimp only at hSw); go_simp; try with_reducible rfl)
          simp only [Act.put, List.getElem_toArray, List.getElem_cons_zero, List.getElem_cons_succ, List.setIfInBounds_toArray, List.set_cons_zero, List.set_cons_succ]
          refine tkY 16 (v := ?v36) rfl (.inl ⟨by rfl, ?hy36⟩) ?rest36
          case hy36 => (intro w hSw; (try dsimp only at hSw); go_simp; try with_reducible rfl)
          simp only [Act.put, List.getElem_toArray, List.getElem_cons_zero, List.getElem_cons_succ, List.setIfInBounds_toArray, List.set_cons_zero, List.set_cons_succ]
          refine tkY 17 (v := ?v37) rfl (.inl ⟨by rfl, ?hy37⟩) ?rest37
          case hy37 => (intro w hSw; (try dsimp only at hSw); go_simp; try with_reducible rfl)
          simp only [Act.put, List.getElem_toArray, List.getElem_cons_zero, List.getElem_cons_succ, List.setIfInBounds_toArray, List.set_cons_zero, List.set_cons_succ]
          refine tkY 18 (v := ?v38) rfl (.inl ⟨by rfl, ?hy38⟩) ?rest38
          case hy38 => (intro w hSw; (try dsimp only at hSw); go_simp; try with_reducible rfl)
          simp only [Act.put, List.getElem_toArray, List.getElem_cons_zero, List.getElem_cons_succ, List.setIfInBounds_toArray, List.set_cons_zero, List.set_cons_succ]
          refine tkY 19 (v := ?v39) rfl (.inl ⟨by rfl, ?hy39⟩) ?rest39
          case hy39 => (intro w hSw; (try dsimp only at hSw); go_simp; try with_reducible rfl)
          simp only [Act.put, List.getElem_toArray, List.getElem_cons_zero, List.getElem_cons_succ, List.setIfInBounds_toArray, List.set_cons_zero, List.set_cons_succ]
          refine tkY 20 (v := ?v40) rfl (.inl ⟨by rfl, ?hy40⟩) ?rest40
          case hy40 => (intro w hSw; (try dsimp only at hSw); go_simp; try with_reducible rfl)
          simp only [Act.put, List.getElem_toArray, List.getElem_cons_zero, List.getElem_cons_succ, List.setIfInBounds_toArray, List.set_cons_zero, List.set_cons_succ]
          refine tkY 21 (v := ?v41) rfl (.inl ⟨by rfl, ?hy41⟩) ?rest41
          case hy41 => (intro w hSw; (try dsimp only at hSw); go_simp; try with_reducible rfl)
          simp only [Act.put, List.getElem_toArray, List.getElem_cons_zero, List.getElem_cons_succ, List.setIfInBounds_toArray, List.set_cons_zero, List.set_cons_succ]
          refine tkY 22 (v := ?v42) rfl (.inl ⟨by rfl, ?hy42⟩) ?rest42
          case hy42 => (intro w hSw; (try dsimp only at hSw); go_simp; try with_reducible rfl)
          simp only [Act.put, List.getElem_toArray, List.getElem_cons_zero, List.getElem_cons_succ, List.setIfInBounds_toArray, List.set_cons_zero, List.set_cons_succ]
          refine tkY 23 (v := ?v43) rfl (.inl ⟨by rfl, ?hy43⟩) ?rest43
          case hy43 => (intro w hSw; (try dsimp only at hSw); go_simp; try with_reducible rfl)
          simp only [Act.put, List.getElem_toArray, List.getElem_cons_zero, List.getElem_cons_succ, List.setIfInBounds_toArray, List.set_cons_zero, List.set_cons_succ]
          refine tkY 24 (v := ?v44) rfl (.inl ⟨by rfl, ?hy44⟩) ?rest44
          case hy44 => (intro w hSw; (try dsimp only at hSw); go_simp; try with_reducible rfl)
          simp only [Act.put, List.getElem_toArray, List.getElem_cons_zero, List.getElem_cons_succ, List.setIfInBounds_toArray, List.set_cons_zero, List.set_cons_succ]
          refine tkY 25 (v := ?v45) rfl (.inl ⟨by rfl, ?hy45⟩) ?rest45
          case hy45 => (intro w hSw; (try dsimp only at hSw); go_simp; try with_reducible rfl)
          simp only [Act.put, List.getElem_toArray, List.getElem_cons_zero, List.getElem_cons_succ, List.setIfInBounds_toArray, List.set_cons_zero, List.set_cons_succ]
          refine tkY 26 (v := ?v46) rfl (.inl ⟨by rfl, ?hy46⟩) ?rest46
          case hy46 => (intro w hSw; (try dsimp only at hSw); go_simp; try with_reducible rfl)
          simp only [Act.put, List.getElem_toArray, List.getElem_cons_zero, List.getElem_cons_succ, List.setIfInBounds_toArray, List.set_cons_zero, List.set_cons_succ]
          refine wpAnyH_done (by kernel_rfl) ?_ _
          have hO9 := hHeld
          clear c0_0 c0_1 cf0
          have hst : VT.stepK 5 s.data.toList = (VT.parse (s.extract 5 (s.size - 1)).data.toList).map (.of 5) := by
           rw [stepK_doc (by decide) hyd.out, sub_list, show (VT.nameK 5).length = 4 from rfl]
          have hse : (s.extract 5 (s.size - 1)).size ≤ s.size - 1 := by simp [ByteArray.size_extract] <;> omega
          replace hst := Lib.hid hst
          repeat' ((fail_if_success at_builtin); (first | go_skip | go_guarded | go_step))
          have IH := ih.out (s.extract 5 (s.size - 1)) w7 (by omega) (by omega)
          generalize hp : VT.parse (s.extract 5 (s.size - 1)).data.toList = op at IH
          rw [hst.out, hp] at hu
          replace hp := Lib.hid hp
          refine IH.mono ?_
          clear IH
          rintro e8 w8 ⟨A8, n8, c8, rfl, hr8, hb8⟩
          dsimp only
          have hO10 := hO9.kept hb8
          have hb9 := hO9.below
          have hb10 := hO10.below
          cases op with
          | none =>
           have hu2 : VT.readF (kinds8.drop (5 + 1 : Int).toNat) s.data.toList = fin := hu
           replace hu2 := Lib.hid hu2
           clear hu
           dsimp only [Option.getD, Option.isSome]
           go_upto_region 10 with (fail)
           generalize hx_ : World.alloc w8 _ = wo11
           have hO11 : OwnB w wo11 [(w8.heap.size, [.int .i64 ((VT.base 0).kind : Int), .slice A8 n8 c8]), (w.heap.size, [.int .i64 0, .slice none 0 0])] := by rw [← hx_]; exact hO10.new #[.int .i64 ((VT.base 0).kind : Int), .slice A8 n8 c8] _ (g := w8.heap.size)
           clear hx_ hO10
           have c0_0 := hO11.c 0 0
           have c0_1 := hO11.c 0 1
           have cf0 := hO11.fr 0
           have c1_0 := hO11.c 1 0
           have c1_1 := hO11.c 1 1
           have cf1 := hO11.fr 1
           repeat' ((fail_if_success at_builtin); (first | go_skip | go_guarded | go_step))
           go_roundw
           case rel => exact ⟨5 + 1, by omega, by omega, by first | rfl | go_num, hO11.drop1, hu2.out⟩
           case measure => (try go_num); (try simp [intOf]); (try omega)
          | some v =>
           have hfin : fin = some (.of 5 v) := hu.symm
           replace hfin := Lib.hid hfin
           clear hu
           dsimp only [Option.getD, Option.isSome]
           go_upto_region 10 with (fail)
           generalize hx_ : World.alloc w8 _ = wo11
           have hO11 : OwnB w wo11 [(w8.heap.size, [.int .i64 (v.kind : Int), .slice A8 n8 c8]), (w.heap.size, [.int .i64 0, .slice none 0 0])] := by rw [← hx_]; exact hO10.new #[.int .i64 (v.kind : Int), .slice A8 n8 c8] _ (g := w8.heap.size)
           have hbx : Below w8.heap.size w8 wo11 := by rw [← hx_]; exact (Below.refl _ _).alloc (Nat.le_refl _) _
           clear hx_ hO10
           have c0_0 := hO11.c 0 0
           have c0_1 := hO11.c 0 1
           have cf0 := hO11.fr 0
           have c1_0 := hO11.c 1 0
           have c1_1 := hO11.c 1 1
           have cf1 := hO11.fr 1
           repeat' ((fail_if_success at_builtin); (first | go_skip | go_guarded | go_step))
           refine (with_any (5 : Int) (v.kind : Int) A8 n8 c8 _).mono ?_
           rintro e9 w9 ⟨g9, rfl, hg9, hC9, hb11⟩
           dsimp only
           have hlt9 := hC9.lt
           have hbs := hbx.size
           have hrx : RV w9 (fun b => w7.heap.size ≤ b ∧ b < w8.heap.size) v [.int .i64 (v.kind : Int), .slice A8 n8 c8] := (RV.at_ hr8 (fun b h => h.2) hbx).map (fun p hp => hb11.cell (Nat.lt_of_lt_of_le hp.2 hbs)) (fun b h => h)
           have hbs9 := hb11.size
           have hbl := hO11.lt 1
           have hbs8 := hb8.size
           have hlo7 := hO9.lt 0
           have hO12 : OwnB w w9 [(w8.heap.size, [.int .i64 (v.kind : Int), .slice A8 n8 c8]), (w.heap.size, [.int .i64 0, .slice none 0 0])] := hO11.kept hb11
           clear c0_0 c0_1 cf0 c1_0 c1_1 cf1 hO11
           have c0_0 := hO12.c 0 0
           have c0_1 := hO12.c 0 1
           have cf0 := hO12.fr 0
           have c1_0 := hO12.c 1 0
           have c1_1 := hO12.c 1 1
           have cf1 := hO12.fr 1
           repeat' ((fail_if_success at_builtin); (first | go_skip | go_guarded | go_step))
           have hC8 := cells_back (b4 := w.heap.size) (.int .i64 5) (.slice (some ⟨g9, 0, none⟩) 1 1) hC9 (by omega)
           have hr9 := RV.set2 (g := w.heap.size) (.int .i64 5) (.slice (some ⟨g9, 0, none⟩) 1 1) (fun b h => by have := h.1; omega) hrx
           have hs9 : ((w9.setCell ⟨w.heap.size, 0, none⟩ (.int .i64 5)).setCell ⟨w.heap.size, 1, none⟩ (.slice (some ⟨g9, 0, none⟩) 1 1)).heap.size = w9.heap.size := by simp [World.setCell]
           generalize hx_ : World.setCell (World.setCell _ _ _) _ _ = wo13 at hC8 hr9 hs9 ⊢
           have hO13 : OwnB w wo13 [(w8.heap.size, [.int .i64 (v.kind : Int), .slice A8 n8 c8]), (w.heap.size, [.int .i64 5, .slice (some ⟨g9, 0, none⟩) 1 1])] := by rw [← hx_]; exact (hO12.store 1 rfl 0 _).store 1 rfl 1 _
           clear hx_ c0_0 c0_1 cf0 c1_0 c1_1 cf1 hO12
           have c0_0 := hO13.c 0 0
           have c0_1 := hO13.c 0 1
           have cf0 := hO13.fr 0
           have c1_0 := hO13.c 1 0
           have c1_1 := hO13.c 1 1
           have cf1 := hO13.fr 1
           have hb := hO13.below
           refine bodyPost_ret (v := .tuple #[.agg #[.int .i64 5, .slice (some ⟨g9, 0, none⟩) 1 1], .bool true]) (by simp only [results, Tryd.results50]; go_simp; first | done | exact ⟨rfl, rfl, rfl⟩ | rfl) rfl ?_
           exact retR_some hfin.out hb rfl (rv_mk hC8 ⟨by omega, by omega⟩ (hr9.imp (fun b h => ⟨by have := h.1; omega, by have := h.2; omega⟩)))
         ·
          have q4 : (((s[s.size - 1]'hx7).toNat : Int) == 41) = false := by simp; intro h; exact k4 (UInt8.toNat_inj.1 (by show _ = 41; omega))
          have hnd : ¬ VT.docC 5 s.data.toList := hdn.out (fun h => k4 (by have h2 := h.2.2.2; rw [ha2.out] at h2; injection h2))
          have hst : VT.stepK 5 s.data.toList = none := VT.docC_not (by decide) hnd
          have hu2 : VT.readF (kinds8.drop (5 + 1 : Int).toNat) s.data.toList = fin := by rw [hst] at hu; exact hu
          replace hu2 := Lib.hid hu2
          clear hst hnd hu
          go_upto_region 8 with (fail)
          refine wp_region_held_drew (S := fun w' => OwnB w w' [(w.heap.size, [.int .i64 0, .slice none 0 0])]) (by kernel_rfl) ?_ (fun hHeld => ?_)
          ·
           (try dsimp only)
           exact hO4.drew
          refine tkY 0 (v := ?v47) rfl (.inl ⟨by rfl, ?hy47⟩) ?rest47
          case hy47 => (intro w hSw; (try dsimp only at hSw); go_simp; try with_reducible rfl)
          simp only [Act.put, List.getElem_toArray, List.getElem_cons_zero, List.setIfInBounds_toArray, List.set_cons_zero, List.set_cons_succ]
          refine tkY 1 (v := ?v48) rfl (.inl ⟨by rfl, ?hy48⟩) ?rest48
          case hy48 => (intro w hSw; (try dsimp only at hSw); go_simp; try with_reducible rfl)
          simp only [Act.put, List.getElem_toArray, List.getElem_cons_zero, List.getElem_cons_succ, List.setIfInBounds_toArray, List.set_cons_zero, List.set_cons_succ]
          refine tkY 2 (v := ?v49) rfl (.inl ⟨by rfl, ?hy49⟩) ?rest49
          case hy49 => (intro w hSw; (try dsimp only at hSw); go_simp; try with_reducible rfl)
          simp only [Act.put, List.getElem_toArray, List.getElem_cons_zero, List.getElem_cons_succ, List.setIfInBounds_toArray, List.set_cons_zero, List.set_cons_succ]
          refine tkY 3 (v := ?v50) rfl (.inl ⟨by rfl, ?hy50⟩) ?rest50
          case hy50 => (intro w hSw; (try dsimp only at hSw); go_simp; try with_reducible rfl)
          simp only [Act.put, List.getElem_toArray, List.getElem_cons_zero, List.getElem_cons_succ, List.setIfInBounds_toArray, List.set_cons_zero, List.set_cons_succ]
          refine tkY 4 (v := ?v51) rfl (.inl ⟨by rfl, ?hy51⟩) ?rest51
          case hy51 => (intro w hSw; (try dsimp only at hSw); go_simp; try with_reducible rfl)
          simp only [Act.put, List.getElem_toArray, List.getElem_cons_zero, List.getElem_cons_succ, List.setIfInBounds_toArray, List.set_cons_zero, List.set_cons_succ]
          refine tkY 5 (v := ?v52) rfl (.inl ⟨by rfl, ?hy52⟩) ?rest52
          case hy52 => (intro w hSw; (try dsimp only at hSw); go_simp; try with_reducible rfl)
          simp only [Act.put, List.getElem_toArray, List.getElem_cons_zero, List.getElem_cons_succ, List.setIfInBounds_toArray, List.set_cons_zero, List.set_cons_succ]
          refine tkY 6 (v := ?v53) rfl (.inl ⟨by rfl, ?hy53⟩) ?rest53
          case hy53 => (intro w hSw; (try dsimp only at hSw); go_simp; try with_reducible rfl)
          simp only [Act.put, List.getElem_toArray, List.getElem_cons_zero, List.getElem_cons_succ, List.setIfInBounds_toArray, List.set_cons_zero, List.set_cons_succ]
          refine tkY 7 (v := ?v54) rfl (.inl ⟨by rfl, ?hy54⟩) ?rest54
          case hy54 => (intro w hSw; (try dsimp only at hSw); go_simp; try with_reducible rfl)
          simp only [Act.put, List.getElem_toArray, List.getElem_cons_zero, List.getElem_cons_succ, List.setIfInBounds_toArray, List.set_cons_zero, List.set_cons_succ]
          refine tkY 8 (v := ?v55) rfl (.inl ⟨by rfl, ?hy55⟩) ?rest55
          case hy55 => (intro w hSw; (try dsimp only at hSw); go_simp; try with_reducible rfl)
          simp only [Act.put, List.getElem_toArray, List.getElem_cons_zero, List.getElem_cons_succ, List.setIfInBounds_toArray, List.set_cons_zero, List.set_cons_succ]
          refine tkY 9 (v := ?v56) rfl (.inl ⟨by rfl, ?hy56⟩) ?rest56
          case hy56 => (intro w hSw; (try dsimp only at hSw); go_simp; try with_reducible rfl)
          simp only [Act.put, List.getElem_toArray, List.getElem_cons_zero, List.getElem_cons_succ, List.setIfInBounds_toArray, List.set_cons_zero, List.set_cons_succ]
          refine wpAnyH_ready (rs := [10]) (by kernel_rfl) (by simp) ?_
          refine AllReadyH.cons rfl (fun K hK => ?_) AllReadyH.nil
          go_simp
          go_at_call 60
          refine (CN.out _).mono ?_
          rintro e7 w7 ⟨rfl, hbq⟩
          dsimp only
          refine hK.out _ _ ?_ (fun hHeld => ?_)
          ·
           (try dsimp only)
           exact hHeld.kept hbq
          clear hK K
          try simp only [Act.put, List.getElem_toArray, List.getElem_cons_zero, List.getElem_cons_succ, List.setIfInBounds_toArray, List.set_cons_zero, List.set_cons_succ]
          refine tkY 11 (v := ?v57) rfl (.inl ⟨by rfl, ?hy57⟩) ?rest57
          case hy57 => (intro w hSw; (try dsimp only at hSw); go_simp; try with_reducible rfl)
          simp only [Act.put, List.getElem_toArray, List.getElem_cons_zero, List.getElem_cons_succ, List.setIfInBounds_toArray, List.set_cons_zero, List.set_cons_succ]
          refine tkY 12 (v := ?v58) rfl (.inl ⟨by rfl, ?hy58⟩) ?rest58
          case hy58 => (intro w hSw; (try dsimp only at hSw); go_simp; try with_reducible rfl)
          simp only [Act.put, List.getElem_toArray, List.getElem_cons_zero, List.getElem_cons_succ, List.setIfInBounds_toArray, List.set_cons_zero, List.set_cons_succ]
          refine tkY 13 (v := ?v59) rfl (.inl ⟨by rfl, ?hy59⟩) ?rest59
          case hy59 => (intro w hSw; (try dsimp only at hSw); go_simp; try with_reducible rfl)
          simp only [Act.put, List.getElem_toArray, List.getElem_cons_zero, List.getElem_cons_succ, List.setIfInBounds_toArray, List.set_cons_zero, List.set_cons_succ]
          refine tkY 14 (v := ?v60) rfl (.inl ⟨by rfl, ?hy60⟩) ?rest60
          case hy60 => (intro w hSw; (try dsimp only at hSw); go_simp; try with_reducible rfl)
          simp only [Act.put, List.getElem_toArray, List.getElem_cons_zero, List.getElem_cons_succ, List.setIfInBounds_toArray, List.set_cons_zero, List.set_cons_succ]
          refine tkY 15 (v := ?v61) rfl (.inl ⟨by rfl, ?hy61⟩) ?rest61
          case hy61 => (intro w hSw; (try dsimp only at hSw); go_simp; try with_reducible rfl)
          simp only [Act.put, List.getElem_toArray, List.getElem_cons_zero, List.getElem_cons_succ, List.setIfInBounds_toArray, List.set_cons_zero, List.set_cons_succ]
          refine tkY 16 (v := ?v62) rfl (.inl ⟨by rfl, ?hy62⟩) ?rest62
          case hy62 => (intro w hSw; (try dsimp only at hSw); go_simp; try with_reducible rfl)
          simp only [Act.put, List.getElem_toArray, List.getElem_cons_zero, List.getElem_cons_succ, List.setIfInBounds_toArray, List.set_cons_zero, List.set_cons_succ]
          refine tkY 17 (v := ?v63) rfl (.inl ⟨by rfl, ?hy63⟩) ?rest63
          case hy63 => (intro w hSw; (try dsimp only at hSw); go_simp; try with_reducible rfl)
          simp only [Act.put, List.getElem_toArray, List.getElem_cons_zero, List.getElem_cons_succ, List.setIfInBounds_toArray, List.set_cons_zero, List.set_cons_succ]
          refine tkY 18 (v := ?v64) rfl (.inl ⟨by rfl, ?hy64⟩) ?rest64
          case hy64 => (intro w hSw; (try dsimp only at hSw); go_simp; try with_reducible rfl)
          simp only [Act.put, List.getElem_toArray, List.getElem_cons_zero, List.getElem_cons_succ, List.setIfInBounds_toArray, List.set_cons_zero, List.set_cons_succ]
          refine tkY 19 (v := ?v65) rfl (.inl ⟨by rfl, ?hy65⟩) ?rest65
          case hy65 => (intro w hSw; (try dsimp only at hSw); go_simp; try with_reducible rfl)
          simp only [Act.put, List.getElem_toArray, List.getElem_cons_zero, List.getElem_cons_succ, List.setIfInBounds_toArray, List.set_cons_zero, List.set_cons_succ]
          refine tkY 20 (v := ?v66) rfl (.inl ⟨by rfl, ?hy66⟩) ?rest66
          case hy66 => (intro w hSw; (try dsimp only at hSw); go_simp; try with_reducible rfl)
          simp only [Act.put, List.getElem_toArray, List.getElem_cons_zero, List.getElem_cons_succ, List.setIfInBounds_toArray, List.set_cons_zero, List.set_cons_succ]
          refine tkY 21 (v := ?v67) rfl (.inl ⟨by rfl, ?hy67⟩) ?rest67
          case hy67 => (intro w hSw; (try dsimp only at hSw); go_simp; try with_reducible rfl)
          simp only [Act.put, List.getElem_toArray, List.getElem_cons_zero, List.getElem_cons_succ, List.setIfInBounds_toArray, List.set_cons_zero, List.set_cons_succ]
          refine tkY 22 (v := ?v68) rfl (.inl ⟨by rfl, ?hy68⟩) ?rest68
          case hy68 => (intro w hSw; (try dsimp only at hSw); go_simp; try with_reducible rfl)
          simp only [Act.put, List.getElem_toArray, List.getElem_cons_zero, List.getElem_cons_succ, List.setIfInBounds_toArray, List.set_cons_zero, List.set_cons_succ]
          refine tkY 23 (v := ?v69) rfl (.inl ⟨by rfl, ?hy69⟩) ?rest69
          case hy69 => (intro w hSw; (try dsimp only at hSw); go_simp; try with_reducible rfl)
          simp only [Act.put, List.getElem_toArray, List.getElem_cons_zero, List.getElem_cons_succ, List.setIfInBounds_toArray, List.set_cons_zero, List.set_cons_succ]
          refine tkY 24 (v := ?v70) rfl (.inl ⟨by rfl, ?hy70⟩) ?rest70
          case hy70 => (intro w hSw; (try dsimp only at hSw); go_simp; try with_reducible rfl)
          simp only [Act.put, List.getElem_toArray, List.getElem_cons_zero, List.getElem_cons_succ, List.setIfInBounds_toArray, List.set_cons_zero, List.set_cons_succ]
          refine tkY 25 (v := ?v71) rfl (.inl ⟨by rfl, ?hy71⟩) ?rest71
          case hy71 => (intro w hSw; (try dsimp only at hSw); go_simp; try with_reducible rfl)
          simp only [Act.put, List.getElem_toArray, List.getElem_cons_zero, List.getElem_cons_succ, List.setIfInBounds_toArray, List.set_cons_zero, List.set_cons_succ]
          refine tkY 26 (v := ?v72) rfl (.inl ⟨by rfl, ?hy72⟩) ?rest72
          case hy72 => (intro w hSw; (try dsimp only at hSw); go_simp; try with_reducible rfl)
          simp only [Act.put, List.getElem_toArray, List.getElem_cons_zero, List.getElem_cons_succ, List.setIfInBounds_toArray, List.set_cons_zero, List.set_cons_succ]
          refine wpAnyH_done (by kernel_rfl) ?_ _
          have hO9 := hHeld
          repeat' ((fail_if_success at_builtin); (first | go_skip | go_guarded | go_step))
          go_roundw
          case rel => exact ⟨5 + 1, by omega, by omega, by first | rfl | go_num, hO9, hu2.out⟩
          case measure => (try go_num); (try simp [intOf]); (try omega)
        ·
         have q3 : (((s[4]'hx2).toNat : Int) == 40) = false := by simp; intro h; exact k3 (UInt8.toNat_inj.1 (by show _ = 40; omega))
         have hnd : ¬ VT.docC 5 s.data.toList := hdn.out (fun h => k3 (by have h2 := h.2.2.1; rw [ha1.out] at h2; injection h2))
         have hst : VT.stepK 5 s.data.toList = none := VT.docC_not (by decide) hnd
         have hu2 : VT.readF (kinds8.drop (5 + 1 : Int).toNat) s.data.toList = fin := by rw [hst] at hu; exact hu
         replace hu2 := Lib.hid hu2
         clear hst hnd hu
         go_upto_region 8 with (fail)
         refine wp_region_held_drew (S := fun w' => OwnB w w' [(w.heap.size, [.int .i64 0, .slice none 0 0])]) (by kernel_rfl) ?_ (fun hHeld => ?_)
         ·
          (try dsimp only)
          exact hO4.drew
         refine tkY 0 (v := ?v73) rfl (.inl ⟨by rfl, ?hy73⟩) ?rest73
         case hy73 => (intro w hSw; (try dsimp only at hSw); go_simp; try with_reducible rfl)
         simp only [Act.put, List.getElem_toArray, List.getElem_cons_zero, List.setIfInBounds_toArray, List.set_cons_zero, List.set_cons_succ]
         refine tkY 1 (v := ?v74) rfl (.inl ⟨by rfl, ?hy74⟩) ?rest74
         case hy74 => (intro w hSw; (try dsimp only at hSw); go_simp; try with_reducible rfl)
         simp only [Act.put, List.getElem_toArray, List.getElem_cons_zero, List.getElem_cons_succ, List.setIfInBounds_toArray, List.set_cons_zero, List.set_cons_succ]
         refine tkY 2 (v := ?v75) rfl (.inl ⟨by rfl, ?hy75⟩) ?rest75
         case hy75 => (intro w hSw; (try dsimp only at hSw); go_simp; try with_reducible rfl)
         simp only [Act.put, List.getElem_toArray, List.getElem_cons_zero, List.getElem_cons_succ, List.setIfInBounds_toArray, List.set_cons_zero, List.set_cons_succ]
         refine tkY 3 (v := ?v76) rfl (.inl ⟨by rfl, ?hy76⟩) ?rest76
         case hy76 => (intro w hSw; (try dsimp only at hSw); go_simp; try with_reducible rfl)
         simp only [Act.put, List.getElem_toArray, List.getElem_cons_zero, List.getElem_cons_succ, List.setIfInBounds_toArray, List.set_cons_zero, List.set_cons_succ]
         refine tkY 4 (v := ?v77) rfl (.inl ⟨by rfl, ?hy77⟩) ?rest77
         case hy77 => (intro w hSw; (try dsimp only at hSw); go_simp; try with_reducible rfl)
         simp only [Act.put, List.getElem_toArray, List.getElem_cons_zero, List.getElem_cons_succ, List.setIfInBounds_toArray, List.set_cons_zero, List.set_cons_succ]
         refine tkY 5 (v := ?v78) rfl (.inl ⟨by rfl, ?hy78⟩) ?rest78
         case hy78 => (intro w hSw; (try dsimp only at hSw); go_simp; try with_reducible rfl)
         simp only [Act.put, List.getElem_toArray, List.getElem_cons_zero, List.getElem_cons_succ, List.setIfInBounds_toArray, List.set_cons_zero, List.set_cons_succ]
         refine tkY 6 (v := ?v79) rfl (.inl ⟨by rfl, ?hy79⟩) ?rest79
         case hy79 => (intro w hSw; (try dsimp only at hSw); go_simp; try with_reducible rfl)
         simp only [Act.put, List.getElem_toArray, List.getElem_cons_zero, List.getElem_cons_succ, List.setIfInBounds_toArray, List.set_cons_zero, List.set_cons_succ]
         refine tkY 7 (v := ?v80) rfl (.inl ⟨by rfl, ?hy80⟩) ?rest80
         case hy80 => (intro w hSw; (try dsimp only at hSw); go_simp; try with_reducible rfl)
         simp only [Act.put, List.getElem_toArray, List.getElem_cons_zero, List.getElem_cons_succ, List.setIfInBounds_toArray, List.set_cons_zero, List.set_cons_succ]
         refine tkY 8 (v := ?v81) rfl (.inl ⟨by rfl, ?hy81⟩) ?rest81
         case hy81 => (intro w hSw; (try dsimp only at hSw); go_simp; try with_reducible rfl)
         simp only [Act.put, List.getElem_toArray, List.getElem_cons_zero, List.getElem_cons_succ, List.setIfInBounds_toArray, List.set_cons_zero, List.set_cons_succ]
         refine tkY 9 (v := ?v82) rfl (.inl ⟨by rfl, ?hy82⟩) ?rest82
         case hy82 => (intro w hSw; (try dsimp only at hSw); go_simp; try with_reducible rfl)
         simp only [Act.put, List.getElem_toArray, List.getElem_cons_zero, List.getElem_cons_succ, List.setIfInBounds_toArray, List.set_cons_zero, List.set_cons_succ]
         refine wpAnyH_ready (rs := [10]) (by kernel_rfl) (by simp) ?_
         refine AllReadyH.cons rfl (fun K hK => ?_) AllReadyH.nil
         go_simp
         go_at_call 60
         refine (CN.out _).mono ?_
         rintro e7 w7 ⟨rfl, hbq⟩
         dsimp only
         refine hK.out _ _ ?_ (fun hHeld => ?_)
         ·
          (try dsimp only)
          exact hHeld.kept hbq
         clear hK K
         try simp only [Act.put, List.getElem_toArray, List.getElem_cons_zero, List.getElem_cons_succ, List.setIfInBounds_toArray, List.set_cons_zero, List.set_cons_succ]
         refine tkY 11 (v := ?v83) rfl (.inl ⟨by rfl, ?hy83⟩) ?rest83
         case hy83 => (intro w hSw; (try dsimp only at hSw); go_simp; try with_reducible rfl)
         simp only [Act.put, List.getElem_toArray, List.getElem_cons_zero, List.getElem_cons_succ, List.setIfInBounds_toArray, List.set_cons_zero, List.set_cons_succ]
         refine tkY 12 (v := ?v84) rfl (.inl ⟨by rfl, ?hy84⟩) ?rest84
         case hy84 => (intro w hSw; (try dsimp only at hSw); go_simp; try with_reducible rfl)
         simp only [Act.put, List.getElem_toArray, List.getElem_cons_zero, List.getElem_cons_succ, List.setIfInBounds_toArray, List.set_cons_zero, List.set_cons_succ]
         refine tkY 13 (v := ?v85) rfl (.inl ⟨by rfl, ?hy85⟩) ?rest85
         case hy85 => (intro w hSw; (try dsimp only at hSw); go_simp; try with_reducible rfl)
         simp only [Act.put, List.getElem_toArray, List.getElem_cons_zero, List.getElem_cons_succ, List.setIfInBounds_toArray, List.set_cons_zero, List.set_cons_succ]
         refine tkY 14 (v := ?v86) rfl (.inl ⟨by rfl, ?hy86⟩) ?rest86
         case hy86 => (intro w hSw; (try dsimp only at hSw); go_simp; try with_reducible rfl)
         simp only [Act.put, List.getElem_toArray, List.getElem_cons_zero, List.getElem_cons_succ, List.setIfInBounds_toArray, List.set_cons_zero, List.set_cons_succ]
         refine tkY 15 (v := ?v87) rfl (.inl ⟨by rfl, ?hy87⟩) ?rest87
         case hy87 => (intro w hSw; (try dsimp only at hSw); go_simp; try with_reducible rfl)
         simp only [Act.put, List.getElem_toArray, List.getElem_cons_zero, List.getElem_cons_succ, List.setIfInBounds_toArray, List.set_cons_zero, List.set_cons_succ]
         refine tkY 16 (v := ?v88) rfl (.inl ⟨by rfl, ?hy88⟩) ?rest88
         case hy88 => (intro w hSw; (try dsimp only at hSw); go_simp; try with_reducible rfl)
         simp only [Act.put, List.getElem_toArray, List.getElem_cons_zero, List.getElem_cons_succ, List.setIfInBounds_toArray, List.set_cons_zero, List.set_cons_succ]
         refine tkY 17 (v := ?v89) rfl (.inl ⟨by rfl, ?hy89⟩) ?rest89
         case hy89 => (intro w hSw; (try dsimp only at hSw); go_simp; try with_reducible rfl)
         simp only [Act.put, List.getElem_toArray, List.getElem_cons_zero, List.getElem_cons_succ, List.setIfInBounds_toArray, List.set_cons_zero, List.set_cons_succ]
         refine tkY 18 (v := ?v90) rfl (.inl ⟨by rfl, ?hy90⟩) ?rest90
         case hy90 => (intro w hSw; (try dsimp only at hSw); go_simp; try with_reducible rfl)
         simp only [Act.put, List.getElem_toArray, List.getElem_cons_zero, List.getElem_cons_succ, List.setIfInBounds_toArray, List.set_cons_zero, List.set_cons_succ]
         refine tkY 19 (v := ?v91) rfl (.inl ⟨by rfl, ?hy91⟩) ?rest91
         case hy91 => (intro w hSw; (try dsimp only at hSw); go_simp; try with_reducible rfl)
         simp only [Act.put, List.getElem_toArray, List.getElem_cons_zero, List.getElem_cons_succ, List.setIfInBounds_toArray, List.set_cons_zero, List.set_cons_succ]
         refine tkN 20 rfl ?_
         simp only [Act.put, List.getElem_toArray, List.getElem_cons_zero, List.getElem_cons_succ, List.setIfInBounds_toArray, List.set_cons_zero, List.set_cons_succ]
         refine tkN 21 rfl ?_
         simp only [Act.put, List.getElem_toArray, List.getElem_cons_zero, List.getElem_cons_succ, List.setIfInBounds_toArray, List.set_cons_zero, List.set_cons_succ]
         refine tkN 22 rfl ?_
         simp only [Act.put, List.getElem_toArray, List.getElem_cons_zero, List.getElem_cons_succ, List.setIfInBounds_toArray, List.set_cons_zero, List.set_cons_succ]
         refine tkN 23 rfl ?_
         simp only [Act.put, List.getElem_toArray, List.getElem_cons_zero, List.getElem_cons_succ, List.setIfInBounds_toArray, List.set_cons_zero, List.set_cons_succ]
         refine tkN 24 rfl ?_
         simp only [Act.put, List.getElem_toArray, List.getElem_cons_zero, List.getElem_cons_succ, List.setIfInBounds_toArray, List.set_cons_zero, List.set_cons_succ]
         refine tkN 25 rfl ?_
         simp only [Act.put, List.getElem_toArray, List.getElem_cons_zero, List.getElem_cons_succ, List.setIfInBounds_toArray, List.set_cons_zero, List.set_cons_succ]
         refine tkY 26 (v := ?v92) rfl (.inl ⟨by rfl, ?hy92⟩) ?rest92
         case hy92 => (intro w hSw; (try dsimp only at hSw); go_simp; try with_reducible rfl)
         simp only [Act.put, List.getElem_toArray, List.getElem_cons_zero, List.getElem_cons_succ, List.setIfInBounds_toArray, List.set_cons_zero, List.set_cons_succ]
         refine wpAnyH_done (by kernel_rfl) ?_ _
         have hO9 := hHeld
         repeat' ((fail_if_success at_builtin); (first | go_skip | go_guarded | go_step))
         go_roundw
         case rel => exact ⟨5 + 1, by omega, by omega, by first | rfl | go_num, hO9, hu2.out⟩
         case measure => (try go_num); (try simp [intOf]); (try omega)
       ·
        have q2 : ((s.extract 0 4).toList == nmS.toList) = false := by rw [beq_eq_false_iff_ne]; exact k2
        have hnd : ¬ VT.docC 5 s.data.toList := hdn.out (fun h => k2 h.2.1)
        have hst : VT.stepK 5 s.data.toList = none := VT.docC_not (by decide) hnd
        have hu2 : VT.readF (kinds8.drop (5 + 1 : Int).toNat) s.data.toList = fin := by rw [hst] at hu; exact hu
        replace hu2 := Lib.hid hu2
        clear hst hnd hu
        go_upto_region 8 with (fail)
        refine wp_region_held_drew (S := fun w' => OwnB w w' [(w.heap.size, [.int .i64 0, .slice none 0 0])]) (by kernel_rfl) ?_ (fun hHeld => ?_)
        ·
         (try dsimp only)
         exact hO4.drew
        refine tkY 0 (v := ?v93) rfl (.inl ⟨by rfl, ?hy93⟩) ?rest93
        case hy93 => (intro w hSw; (try dsimp only at hSw); go_simp; try with_reducible rfl)
        simp only [Act.put, List.getElem_toArray, List.getElem_cons_zero, List.setIfInBounds_toArray, List.set_cons_zero, List.set_cons_succ]
        refine tkY 1 (v := ?v94) rfl (.inl ⟨by rfl, ?hy94⟩) ?rest94
        case hy94 => (intro w hSw; (try dsimp only at hSw); go_simp; try with_reducible rfl)
        simp only [Act.put, List.getElem_toArray, List.getElem_cons_zero, List.getElem_cons_succ, List.setIfInBounds_toArray, List.set_cons_zero, List.set_cons_succ]
        refine tkY 2 (v := ?v95) rfl (.inl ⟨by rfl, ?hy95⟩) ?rest95
        case hy95 => (intro w hSw; (try dsimp only at hSw); go_simp; try with_reducible rfl)
        simp only [Act.put, List.getElem_toArray, List.getElem_cons_zero, List.getElem_cons_succ, List.setIfInBounds_toArray, List.set_cons_zero, List.set_cons_succ]
        refine tkY 3 (v := ?v96) rfl (.inl ⟨by rfl, ?hy96⟩) ?rest96
        case hy96 => (intro w hSw; (try dsimp only at hSw); go_simp; try with_reducible rfl)
        simp only [Act.put, List.getElem_toArray, List.getElem_cons_zero, List.getElem_cons_succ, List.setIfInBounds_toArray, List.set_cons_zero, List.set_cons_succ]
        refine tkY 4 (v := ?v97) rfl (.inl ⟨by rfl, ?hy97⟩) ?rest97
        case hy97 => (intro w hSw; (try dsimp only at hSw); go_simp; try with_reducible rfl)
        simp only [Act.put, List.getElem_toArray, List.getElem_cons_zero, List.getElem_cons_succ, List.setIfInBounds_toArray, List.set_cons_zero, List.set_cons_succ]
        refine tkY 5 (v := ?v98) rfl (.inl ⟨by rfl, ?hy98⟩) ?rest98
        case hy98 => (intro w hSw; (try dsimp only at hSw); go_simp; try with_reducible rfl)
        simp only [Act.put, List.getElem_toArray, List.getElem_cons_zero, List.getElem_cons_succ, List.setIfInBounds_toArray, List.set_cons_zero, List.set_cons_succ]
        refine tkY 6 (v := ?v99) rfl (.inl ⟨by rfl, ?hy99⟩) ?rest99
        case hy99 => (intro w hSw; (try dsimp only at hSw); go_simp; try with_reducible rfl)
        simp only [Act.put, List.getElem_toArray, List.getElem_cons_zero, List.getElem_cons_succ, List.setIfInBounds_toArray, List.set_cons_zero, List.set_cons_succ]
        refine tkY 7 (v := ?v100) rfl (.inl ⟨by rfl, ?hy100⟩) ?rest100
        case hy100 => (intro w hSw; (try dsimp only at hSw); go_simp; try with_reducible rfl)
        simp only [Act.put, List.getElem_toArray, List.getElem_cons_zero, List.getElem_cons_succ, List.setIfInBounds_toArray, List.set_cons_zero, List.set_cons_succ]
        refine tkY 8 (v := ?v101) rfl (.inl ⟨by rfl, ?hy101⟩) ?rest101
        case hy101 => (intro w hSw; (try dsimp only at hSw); go_simp; try with_reducible rfl)
        simp only [Act.put, List.getElem_toArray, List.getElem_cons_zero, List.getElem_cons_succ, List.setIfInBounds_toArray, List.set_cons_zero, List.set_cons_succ]
        refine tkY 9 (v := ?v102) rfl (.inl ⟨by rfl, ?hy102⟩) ?rest102
        case hy102 => (intro w hSw; (try dsimp only at hSw); go_simp; try with_reducible rfl)
        simp only [Act.put, List.getElem_toArray, List.getElem_cons_zero, List.getElem_cons_succ, List.setIfInBounds_toArray, List.set_cons_zero, List.set_cons_succ]
        refine wpAnyH_ready (rs := [10]) (by kernel_rfl) (by simp) ?_
        refine AllReadyH.cons rfl (fun K hK => ?_) AllReadyH.nil
        go_simp
        go_at_call 60
        refine (CN.out _).mono ?_
        rintro e7 w7 ⟨rfl, hbq⟩
        dsimp only
        refine hK.out _ _ ?_ (fun hHeld => ?_)
        ·
         (try dsimp only)
         exact hHeld.kept hbq
        clear hK K
        try simp only [Act.put, List.getElem_toArray, List.getElem_cons_zero, List.getElem_cons_succ, List.setIfInBounds_toArray, List.set_cons_zero, List.set_cons_succ]
        refine tkY 11 (v := ?v103) rfl (.inl ⟨by rfl, ?hy103⟩) ?rest103
        case hy103 => (intro w hSw; (try dsimp only at hSw); go_simp; try with_reducible rfl)
        simp only [Act.put, List.getElem_toArray, List.getElem_cons_zero, List.getElem_cons_succ, List.setIfInBounds_toArray, List.set_cons_zero, List.set_cons_succ]
        refine tkY 12 (v := ?v104) rfl (.inl ⟨by rfl, ?hy104⟩) ?rest104
        case hy104 => (intro w hSw; (try dsimp only at hSw); go_simp; try with_reducible rfl)
        simp only [Act.put, List.getElem_toArray, List.getElem_cons_zero, List.getElem_cons_succ, List.setIfInBounds_toArray, List.set_cons_zero, List.set_cons_succ]
        refine tkY 13 (v := ?v105) rfl (.inl ⟨by rfl, ?hy105⟩) ?rest105
        case hy105 => (intro w hSw; (try dsimp only at hSw); go_simp; try with_reducible rfl)
        simp only [Act.put, List.getElem_toArray, List.getElem_cons_zero, List.getElem_cons_succ, List.setIfInBounds_toArray, List.set_cons_zero, List.set_cons_succ]
        refine tkN 14 rfl ?_
        simp only [Act.put, List.getElem_toArray, List.getElem_cons_zero, List.getElem_cons_succ, List.setIfInBounds_toArray, List.set_cons_zero, List.set_cons_succ]
        refine tkN 15 rfl ?_
        simp only [Act.put, List.getElem_toArray, List.getElem_cons_zero, List.getElem_cons_succ, List.setIfInBounds_toArray, List.set_cons_zero, List.set_cons_succ]
        refine tkN 16 rfl ?_
        simp only [Act.put, List.getElem_toArray, List.getElem_cons_zero, List.getElem_cons_succ, List.setIfInBounds_toArray, List.set_cons_zero, List.set_cons_succ]
        refine tkN 17 rfl ?_
        simp only [Act.put, List.getElem_toArray, List.getElem_cons_zero, List.getElem_cons_succ, List.setIfInBounds_toArray, List.set_cons_zero, List.set_cons_succ]
        refine tkY 18 (v := ?v106) rfl (.inl ⟨by rfl, ?hy106⟩) ?rest106
        case hy106 => (intro w hSw; (try dsimp only at hSw); go_simp; try with_reducible rfl)
        simp only [Act.put, List.getElem_toArray, List.getElem_cons_zero, List.getElem_cons_succ, List.setIfInBounds_toArray, List.set_cons_zero, List.set_cons_succ]
        refine tkY 19 (v := ?v107) rfl (.inl ⟨by rfl, ?hy107⟩) ?rest107
        case hy107 => (intro w hSw; (try dsimp only at hSw); go_simp; try with_reducible rfl)
        simp only [Act.put, List.getElem_toArray, List.getElem_cons_zero, List.getElem_cons_succ, List.setIfInBounds_toArray, List.set_cons_zero, List.set_cons_succ]
        refine tkN 20 rfl ?_
        simp only [Act.put, List.getElem_toArray, List.getElem_cons_zero, List.getElem_cons_succ, List.setIfInBounds_toArray, List.set_cons_zero, List.set_cons_succ]
        refine tkN 21 rfl ?_
        simp only [Act.put, List.getElem_toArray, List.getElem_cons_zero, List.getElem_cons_succ, List.setIfInBounds_toArray, List.set_cons_zero, List.set_cons_succ]
        refine tkN 22 rfl ?_
        simp only [Act.put, List.getElem_toArray, List.getElem_cons_zero, List.getElem_cons_succ, List.setIfInBounds_toArray, List.set_cons_zero, List.set_cons_succ]
        refine tkN 23 rfl ?_
        simp only [Act.put, List.getElem_toArray, List.getElem_cons_zero, List.getElem_cons_succ, List.setIfInBounds_toArray, List.set_cons_zero, List.set_cons_succ]
        refine tkN 24 rfl ?_
        simp only [Act.put, List.getElem_toArray, List.getElem_cons_zero, List.getElem_cons_succ, List.setIfInBounds_toArray, List.set_cons_zero, List.set_cons_succ]
        refine tkN 25 rfl ?_
        simp only [Act.put, List.getElem_toArray, List.getElem_cons_zero, List.getElem_cons_succ, List.setIfInBounds_toArray, List.set_cons_zero, List.set_cons_succ]
        refine tkY 26 (v := ?v108) rfl (.inl ⟨by rfl, ?hy108⟩) ?rest108
        case hy108 => (intro w hSw; (try dsimp only at hSw); go_simp; try with_reducible rfl)
        simp only [Act.put, List.getElem_toArray, List.getElem_cons_zero, List.getElem_cons_succ, List.setIfInBounds_toArray, List.set_cons_zero, List.set_cons_succ]
        refine wpAnyH_done (by kernel_rfl) ?_ _
        have hO9 := hHeld
        repeat' ((fail_if_success at_builtin); (first | go_skip | go_guarded | go_step))
        go_roundw
        case rel => exact ⟨5 + 1, by omega, by omega, by first | rfl | go_num, hO9, hu2.out⟩
        case measure => (try go_num); (try simp [intOf]); (try omega)
      ·
       have g1 : ¬ (6 : Int) < (s.size : Int) := by omega
       have hnd : ¬ VT.docC 5 s.data.toList := hdn.out (fun h => k1 h.1)
       have hst : VT.stepK 5 s.data.toList = none := VT.docC_not (by decide) hnd
       have hu2 : VT.readF (kinds8.drop (5 + 1 : Int).toNat) s.data.toList = fin := by rw [hst] at hu; exact hu
       replace hu2 := Lib.hid hu2
       clear hst hnd hu
       go_upto_region 8 with (fail)
       refine wp_region_held_drew (S := fun w' => OwnB w w' [(w.heap.size, [.int .i64 0, .slice none 0 0])]) (by kernel_rfl) ?_ (fun hHeld => ?_)
       ·
        (try dsimp only)
        exact hO4.drew
       refine tkY 0 (v := ?v109) rfl (.inl ⟨by rfl, ?hy109⟩) ?rest109
       case hy109 => (intro w hSw; (try dsimp only at hSw); go_simp; try with_reducible rfl)
       simp only [Act.put, List.getElem_toArray, List.getElem_cons_zero, List.setIfInBounds_toArray, List.set_cons_zero, List.set_cons_succ]
       refine tkY 1 (v := ?v110) rfl (.inl ⟨by rfl, ?hy110⟩) ?rest110
       case hy110 => (intro w hSw; (try dsimp only at hSw); go_simp; try with_reducible rfl)
       simp only [Act.put, List.getElem_toArray, List.getElem_cons_zero, List.getElem_cons_succ, List.setIfInBounds_toArray, List.set_cons_zero, List.set_cons_succ]
       refine tkY 2 (v := ?v111) rfl (.inl ⟨by rfl, ?hy111⟩) ?rest111
       case hy111 => (intro w hSw; (try dsimp only at hSw); go_simp; try with_reducible rfl)
       simp only [Act.put, List.getElem_toArray, List.getElem_cons_zero, List.getElem_cons_succ, List.setIfInBounds_toArray, List.set_cons_zero, List.set_cons_succ]
       refine tkY 3 (v := ?v112) rfl (.inl ⟨by rfl, ?hy112⟩) ?rest112
       case hy112 => (intro w hSw; (try dsimp only at hSw); go_simp; try with_reducible rfl)
       simp only [Act.put, List.getElem_toArray, List.getElem_cons_zero, List.getElem_cons_succ, List.setIfInBounds_toArray, List.set_cons_zero, List.set_cons_succ]
       refine tkY 4 (v := ?v113) rfl (.inl ⟨by rfl, ?hy113⟩) ?rest113
       case hy113 => (intro w hSw; (try dsimp only at hSw); go_simp; try with_reducible rfl)
       simp only [Act.put, List.getElem_toArray, List.getElem_cons_zero, List.getElem_cons_succ, List.setIfInBounds_toArray, List.set_cons_zero, List.set_cons_succ]
       refine tkY 5 (v := ?v114) rfl (.inl ⟨by rfl, ?hy114⟩) ?rest114
       case hy114 => (intro w hSw; (try dsimp only at hSw); go_simp; try with_reducible rfl)
       simp only [Act.put, List.getElem_toArray, List.getElem_cons_zero, List.getElem_cons_succ, List.setIfInBounds_toArray, List.set_cons_zero, List.set_cons_succ]
       refine tkN 6 rfl ?_
       simp only [Act.put, List.getElem_toArray, List.getElem_cons_zero, List.getElem_cons_succ, List.setIfInBounds_toArray, List.set_cons_zero, List.set_cons_succ]
       refine tkN 7 rfl ?_
       simp only [Act.put, List.getElem_toArray, List.getElem_cons_zero, List.getElem_cons_succ, List.setIfInBounds_toArray, List.set_cons_zero, List.set_cons_succ]
       refine tkN 8 rfl ?_
       simp only [Act.put, List.getElem_toArray, List.getElem_cons_zero, List.getElem_cons_succ, List.setIfInBounds_toArray, List.set_cons_zero, List.set_cons_succ]
       refine tkN 9 rfl ?_
       simp only [Act.put, List.getElem_toArray, List.getElem_cons_zero, List.getElem_cons_succ, List.setIfInBounds_toArray, List.set_cons_zero, List.set_cons_succ]
       refine tkN 10 rfl ?_
       simp only [Act.put, List.getElem_toArray, List.getElem_cons_zero, List.getElem_cons_succ, List.setIfInBounds_toArray, List.set_cons_zero, List.set_cons_succ]
       refine tkN 11 rfl ?_
       simp only [Act.put, List.getElem_toArray, List.getElem_cons_zero, List.getElem_cons_succ, List.setIfInBounds_toArray, List.set_cons_zero, List.set_cons_succ]
       refine tkY 12 (v := ?v115) rfl (.inl ⟨by rfl, ?hy115⟩) ?rest115
       case hy115 => (intro w hSw; (try dsimp only at hSw); go_simp; try with_reducible rfl)
       simp only [Act.put, List.getElem_toArray, List.getElem_cons_zero, List.getElem_cons_succ, List.setIfInBounds_toArray, List.set_cons_zero, List.set_cons_succ]
       refine tkY 13 (v := ?v116) rfl (.inl ⟨by rfl, ?hy116⟩) ?rest116
       case hy116 => (intro w hSw; (try dsimp only at hSw); go_simp; try with_reducible rfl)
       simp only [Act.put, List.getElem_toArray, List.getElem_cons_zero, List.getElem_cons_succ, List.setIfInBounds_toArray, List.set_cons_zero, List.set_cons_succ]
       refine tkN 14 rfl ?_
       simp only [Act.put, List.getElem_toArray, List.getElem_cons_zero, List.getElem_cons_succ, List.setIfInBounds_toArray, List.set_cons_zero, List.set_cons_succ]
       refine tkN 15 rfl ?_
       simp only [Act.put, List.getElem_toArray, List.getElem_cons_zero, List.getElem_cons_succ, List.setIfInBounds_toArray, List.set_cons_zero, List.set_cons_succ]
       refine tkN 16 rfl ?_
       simp only [Act.put, List.getElem_toArray, List.getElem_cons_zero, List.getElem_cons_succ, List.setIfInBounds_toArray, List.set_cons_zero, List.set_cons_succ]
       refine tkN 17 rfl ?_
       simp only [Act.put, List.getElem_toArray, List.getElem_cons_zero, List.getElem_cons_succ, List.setIfInBounds_toArray, List.set_cons_zero, List.set_cons_succ]
       refine tkY 18 (v := ?v117) rfl (.inl ⟨by rfl, ?hy117⟩) ?rest117
       case hy117 => (intro w hSw; (try dsimp only at hSw); go_simp; try with_reducible rfl)
       simp only [Act.put, List.getElem_toArray, List.getElem_cons_zero, List.getElem_cons_succ, List.setIfInBounds_toArray, List.set_cons_zero, List.set_cons_succ]
       refine tkY 19 (v := ?v118) rfl (.inl ⟨by rfl, ?hy118⟩) ?rest118
       case hy118 => (intro w hSw; (try dsimp only at hSw); go_simp; try with_reducible rfl)
       simp only [Act.put, List.getElem_toArray, List.getElem_cons_zero, List.getElem_cons_succ, List.setIfInBounds_toArray, List.set_cons_zero, List.set_cons_succ]
       refine tkN 20 rfl ?_
       simp only [Act.put, List.getElem_toArray, List.getElem_cons_zero, List.getElem_cons_succ, List.setIfInBounds_toArray, List.set_cons_zero, List.set_cons_succ]
       refine tkN 21 rfl ?_
       simp only [Act.put, List.getElem_toArray, List.getElem_cons_zero, List.getElem_cons_succ, List.setIfInBounds_toArray, List.set_cons_zero, List.set_cons_succ]
       refine tkN 22 rfl ?_
       simp only [Act.put, List.getElem_toArray, List.getElem_cons_zero, List.getElem_cons_succ, List.setIfInBounds_toArray, List.set_cons_zero, List.set_cons_succ]
       refine tkN 23 rfl ?_
       simp only [Act.put, List.getElem_toArray, List.getElem_cons_zero, List.getElem_cons_succ, List.setIfInBounds_toArray, List.set_cons_zero, List.set_cons_succ]
       refine tkN 24 rfl ?_
       simp only [Act.put, List.getElem_toArray, List.getElem_cons_zero, List.getElem_cons_succ, List.setIfInBounds_toArray, List.set_cons_zero, List.set_cons_succ]
       refine tkN 25 rfl ?_
       simp only [Act.put, List.getElem_toArray, List.getElem_cons_zero, List.getElem_cons_succ, List.setIfInBounds_toArray, List.set_cons_zero, List.set_cons_succ]
       refine tkY 26 (v := ?v119) rfl (.inl ⟨by rfl, ?hy119⟩) ?rest119
       case hy119 => (intro w hSw; (try dsimp only at hSw); go_simp; try with_reducible rfl)
       simp only [Act.put, List.getElem_toArray, List.getElem_cons_zero, List.getElem_cons_succ, List.setIfInBounds_toArray, List.set_cons_zero, List.set_cons_succ]
       refine wpAnyH_done (by kernel_rfl) ?_ _
       have hO9 := hHeld
       repeat' ((fail_if_success at_builtin); (first | go_skip | go_guarded | go_step))
       go_roundw
       case rel => exact ⟨5 + 1, by omega, by omega, by first | rfl | go_num, hO9, hu2.out⟩
       case measure => (try go_num); (try simp [intOf]); (try omega)
     ·
      rw [show (6 : Int).toNat = 6 from rfl] at hu
      repeat' ((fail_if_success at_builtin); (first | go_skip | go_guarded | go_step))
      refine (rname_any (k := 6) (by decide) _).mono ?_
      rintro e w4 ⟨rfl, hb4⟩
      dsimp only
      have hO4 : OwnB w w4 [(w.heap.size, [.int .i64 0, .slice none 0 0])] := hO3.kept hb4
      clear c0_0 c0_1 cf0 hO3
      have c0_0 := hO4.c 0 0
      have c0_1 := hO4.c 0 1
      have cf0 := hO4.fr 0
      have hnml : (strS (VT.nameK 6)).data.toList = VT.nameK 6 := rfl
      have hnsz : (strS (VT.nameK 6)).size = 3 := rfl
      have CN := fun w' => rname_any (k := 6) (by decide) w'
      generalize hnm : strS (VT.nameK 6) = nmS at *
      replace CN := Lib.hid CN
      replace hnml := Lib.hid hnml
      replace hnm := Lib.hid hnm
      have hw6 : IntKind.i64.wrap 5 = 5 := IntWalk.i64_in _ (by decide)
      have hdn : ∀ h : ¬ (5 < s.size ∧ (s.extract 0 3).toList = nmS.toList ∧ s.data.toList[3]? = some 40 ∧ s.data.toList[s.size - 1]? = some 41), ¬ VT.docC 6 s.data.toList := fun h hd => h ⟨by have := hd.1; rw [show (VT.nameK 6).length = 3 from rfl] at this; omega, by
       have := hd.2.1
       rw [show (VT.nameK 6).length = 3 from rfl] at this
       rw [Lib.extract_toList, List.drop_zero, Nat.sub_zero, this, ByteArray.toList_eq, hnml.out], hd.2.2.1, by rw [← hsl]; exact hd.2.2.2⟩
      have hdy : (5 < s.size ∧ (s.extract 0 3).toList = nmS.toList ∧ s.data.toList[3]? = some 40 ∧ s.data.toList[s.size - 1]? = some 41) → VT.docC 6 s.data.toList := fun h => ⟨by rw [show (VT.nameK 6).length = 3 from rfl]; omega, by
       have := h.2.1
       rw [Lib.extract_toList, List.drop_zero, Nat.sub_zero, ByteArray.toList_eq, hnml.out] at this
       exact this, h.2.2.1, by rw [hsl]; exact h.2.2.2⟩
      replace hdn := Lib.hid hdn
      replace hdy := Lib.hid hdy
      by_cases k1 : 5 < s.size
      ·
       have g1 : (5 : Int) < (s.size : Int) := by omega
       have hx0 : 3 ≤ s.size := by omega
       have hx1 : (3 : Int) ≤ (s.size : Int) := by omega
       have hx2 : 3 < s.size := by omega
       have hx3 : (3 : Int) < (s.size : Int) := by omega
       have hx4 : IntKind.i64.wrap ((s.size : Int) - 1) = ((s.size - 1 : Nat) : Int) := by rw [IntWalk.i64_in _ (by omega)]; omega
       have hx5 : (0 : Int) ≤ ((s.size - 1 : Nat) : Int) := by omega
       have hx6 : ((s.size - 1 : Nat) : Int) < (s.size : Int) := by omega
       have hx7 : s.size - 1 < s.size := by omega
       have ha1 := str_at hx2
       have ha2 := str_at hx7
       replace ha1 := Lib.hid ha1
       replace ha2 := Lib.hid ha2
       by_cases k2 : (s.extract 0 3).toList = nmS.toList
       ·
        have q2 : ((s.extract 0 3).toList == nmS.toList) = true := by rw [k2]; simp
        replace k2 := Lib.hid k2
        by_cases k3 : s[3]'hx2 = 40
        ·
         have q3 : (((s[3]'hx2).toNat : Int) == 40) = true := by rw [k3]; rfl
         replace k3 := Lib.hid k3
         by_cases k4 : s[s.size - 1]'hx7 = 41
         ·
          have q4 : (((s[s.size - 1]'hx7).toNat : Int) == 41) = true := by rw [k4]; rfl
          have hyd := hdy.out ⟨k1, k2.out, by rw [ha1.out, k3.out], by rw [ha2.out, k4]⟩
          replace k4 := Lib.hid k4
          replace hyd := Lib.hid hyd
          clear hdn hdy
          go_upto_region 8 with (fail)
          refine wp_region_held_drew (S := fun w' => OwnB w w' [(w.heap.size, [.int .i64 0, .slice none 0 0])]) (by kernel_rfl) ?_ (fun hHeld => ?_)
          ·
           (try dsimp only)
           exact hO4.drew
          refine tkY 0 (v := ?v120) rfl (.inl ⟨by rfl, ?hy120⟩) ?rest120
          case hy120 => (intro w hSw; (try dsimp only at hSw); go_simp; try with_reducible rfl)
          simp only [Act.put, List.getElem_toArray, List.getElem_cons_zero, List.setIfInBounds_toArray, List.set_cons_zero, List.set_cons_succ]
          refine tkY 1 (v := ?v121) rfl (.inl ⟨by rfl, ?hy121⟩) ?rest121
          case hy121 => (intro w hSw; (try dsimp only at hSw); go_simp; try with_reducible rfl)
          simp only [Act.put, List.getElem_toArray, List.getElem_cons_zero, List.getElem_cons_succ, List.setIfInBounds_toArray, List.set_cons_zero, List.set_cons_succ]
          refine tkY 2 (v := ?v122) rfl (.inl ⟨by rfl, ?hy122⟩) ?rest122
          case hy122 => (intro w hSw; (try dsimp only at hSw); go_simp; try with_reducible rfl)
          simp only [Act.put, List.getElem_toArray, List.getElem_cons_zero, List.getElem_cons_succ, List.setIfInBounds_toArray, List.set_cons_zero, List.set_cons_succ]
          refine tkY 3 (v := ?v123) rfl (.inl ⟨by rfl, ?hy123⟩) ?rest123
          case hy123 => (intro w hSw; (try dsimp only at hSw); go_simp; try with_reducible rfl)
          simp only [Act.put, List.getElem_toArray, List.getElem_cons_zero, List.getElem_cons_succ, List.setIfInBounds_toArray, List.set_cons_zero, List.set_cons_succ]
          refine tkY 4 (v := ?v124) rfl (.inl ⟨by rfl, ?hy124⟩) ?rest124
          case hy124 => (intro w hSw; (try dsimp only at hSw); go_simp; try with_reducible rfl)
          simp only [Act.put, List.getElem_toArray, List.getElem_cons_zero, List.getElem_cons_succ, List.setIfInBounds_toArray, List.set_cons_zero, List.set_cons_succ]
          refine tkY 5 (v := ?v125) rfl (.inl ⟨by rfl, ?hy125⟩) ?rest125
          case hy125 => (intro w hSw; (try dsimp only at hSw); go_simp; try with_reducible rfl)
          simp only [Act.put, List.getElem_toArray, List.getElem_cons_zero, List.getElem_cons_succ, List.setIfInBounds_toArray, List.set_cons_zero, List.set_cons_succ]
          refine tkY 6 (v := ?v126) rfl (.inl ⟨by rfl, ?hy126⟩) ?rest126
          case hy126 => (intro w hSw; (try dsimp only at hSw); go_simp; try with_reducible rfl)
          simp only [Act.put, List.getElem_toArray, List.getElem_cons_zero, List.getElem_cons_succ, List.setIfInBounds_toArray, List.set_cons_zero, List.set_cons_succ]
          refine tkY 7 (v := ?v127) rfl (.inl ⟨by rfl, ?hy127⟩) ?rest127
          case hy127 => (intro w hSw; (try dsimp only at hSw); go_simp; try with_reducible rfl)
          simp only [Act.put, List.getElem_toArray, List.getElem_cons_zero, List.getElem_cons_succ, List.setIfInBounds_toArray, List.set_cons_zero, List.set_cons_succ]
          refine tkY 8 (v := ?v128) rfl (.inl ⟨by rfl, ?hy128⟩) ?rest128
          case hy128 => (intro w hSw; (try dsimp only at hSw); go_simp; try with_reducible rfl)
          simp only [Act.put, List.getElem_toArray, List.getElem_cons_zero, List.getElem_cons_succ, List.setIfInBounds_toArray, List.set_cons_zero, List.set_cons_succ]
          refine tkY 9 (v := ?v129) rfl (.inl ⟨by rfl, ?hy129⟩) ?rest129
          case hy129 => (intro w hSw; (try dsimp only at hSw); go_simp; try with_reducible rfl)
          simp only [Act.put, List.getElem_toArray, List.getElem_cons_zero, List.getElem_cons_succ, List.setIfInBounds_toArray, List.set_cons_zero, List.set_cons_succ]
          refine wpAnyH_ready (rs := [10]) (by kernel_rfl) (by simp) ?_
          refine AllReadyH.cons rfl (fun K hK => ?_) AllReadyH.nil
          go_simp
          go_at_call 60
          refine (CN.out _).mono ?_
          rintro e7 w7 ⟨rfl, hbq⟩
          dsimp only
          refine hK.out _ _ ?_ (fun hHeld => ?_)
          ·
           (try dsimp only)
           exact hHeld.kept hbq
          clear hK K
          try simp only [Act.put, List.getElem_toArray, List.getElem_cons_zero, List.getElem_cons_succ, List.setIfInBounds_toArray, List.set_cons_zero, List.set_cons_succ]
          refine tkY 11 (v := ?v130) rfl (.inl ⟨by rfl, ?hy130⟩) ?rest130
          case hy130 => (intro w hSw; (try dsimp only at hSw); go_simp; try with_reducible rfl)
          simp only [Act.put, List.getElem_toArray, List.getElem_cons_zero, List.getElem_cons_succ, List.setIfInBounds_toArray, List.set_cons_zero, List.set_cons_succ]
          refine tkY 12 (v := ?v131) rfl (.inl ⟨by rfl, ?hy131⟩) ?rest131
          case hy131 => (intro w hSw; (try dsimp only at hSw); go_simp; try with_reducible rfl)
          simp only [Act.put, List.getElem_toArray, List.getElem_cons_zero, List.getElem_cons_succ, List.setIfInBounds_toArray, List.set_cons_zero, List.set_cons_succ]
          refine tkY 13 (v := ?v132) rfl (.inl ⟨by rfl, ?hy132⟩) ?rest132
          case hy132 => (intro w hSw; (try dsimp only at hSw); go_simp; try with_reducible rfl)
          simp only [Act.put, List.getElem_toArray, List.getElem_cons_zero, List.getElem_cons_succ, List.setIfInBounds_toArray, List.set_cons_zero, List.set_cons_succ]
          refine tkY 14 (v := ?v133) rfl (.inl ⟨by rfl, ?hy133⟩) ?rest133
          case hy133 => (intro w hSw; (try dsimp only at hSw); go_simp; try with_reducible rfl)
          simp only [Act.put, List.getElem_toArray, List.getElem_cons_zero, List.getElem_cons_succ, List.setIfInBounds_toArray, List.set_cons_zero, List.set_cons_succ]
          refine tkY 15 (v := ?v134) rfl (.inl ⟨by rfl, ?hy134⟩) ?rest134
          case hy134 => (intro w hSw; (try dsimp only at hSw); go_simp; try with_reducible rfl)
          simp only [Act.put, List.getElem_toArray, List.getElem_cons_zero, List.getElem_cons_succ, List.setIfInBounds_toArray, List.set_cons_zero, List.set_cons_succ]
          refine tkY 16 (v := ?v135) rfl (.inl ⟨by rfl, ?hy135⟩) ?rest135
          case hy135 => (intro w hSw; (try dsimp only at hSw); go_simp; try with_reducible rfl)
          simp only [Act.put, List.getElem_toArray, List.getElem_cons_zero, List.getElem_cons_succ, List.setIfInBounds_toArray, List.set_cons_zero, List.set_cons_succ]
          refine tkY 17 (v := ?v136) rfl (.inl ⟨by rfl, ?hy136⟩) ?rest136
          case hy136 => (intro w hSw; (try dsimp only at hSw); go_simp; try with_reducible rfl)
          simp only [Act.put, List.getElem_toArray, List.getElem_cons_zero, List.getElem_cons_succ, List.setIfInBounds_toArray, List.set_cons_zero, List.set_cons_succ]
          refine tkY 18 (v := ?v137) rfl (.inl ⟨by rfl, ?hy137⟩) ?rest137
          case hy137 => (intro w hSw; (try dsimp only at hSw); go_simp; try with_reducible rfl)
          simp only [Act.put, List.getElem_toArray, List.getElem_cons_zero, List.getElem_cons_succ, List.setIfInBounds_toArray, List.set_cons_zero, List.set_cons_succ]
          refine tkY 19 (v := ?v138) rfl (.inl ⟨by rfl, ?hy138⟩) ?rest138
          case hy138 => (intro w hSw; (try dsimp only at hSw); go_simp; try with_reducible rfl)
          simp only [Act.put, List.getElem_toArray, List.getElem_cons_zero, List.getElem_cons_succ, List.setIfInBounds_toArray, List.set_cons_zero, List.set_cons_succ]
          refine tkY 20 (v := ?v139) rfl (.inl ⟨by rfl, ?hy139⟩) ?rest139
          case hy139 => (intro w hSw; (try dsimp only at hSw); go_simp; try with_reducible rfl)
          simp only [Act.put, List.getElem_toArray, List.getElem_cons_zero, List.getElem_cons_succ, List.setIfInBounds_toArray, List.set_cons_zero, List.set_cons_succ]
          refine tkY 21 (v := ?v140) rfl (.inl ⟨by rfl, ?hy140⟩) ?rest140
          case hy140 => (intro w hSw; (try dsimp only at hSw); go_simp; try with_reducible rfl)
          simp only [Act.put, List.getElem_toArray, List.getElem_cons_zero, List.getElem_cons_succ, List.setIfInBounds_toArray, List.set_cons_zero, List.set_cons_succ]
          refine tkY 22 (v := ?v141) rfl (.inl ⟨by rfl, ?hy141⟩) ?rest141
          case hy141 => (intro w hSw; (try dsimp only at hSw); go_simp; try with_reducible rfl)
          simp only [Act.put, List.getElem_toArray, List.getElem_cons_zero, List.getElem_cons_succ, List.setIfInBounds_toArray, List.set_cons_zero, List.set_cons_succ]
          refine tkY 23 (v := ?v142) rfl (.inl ⟨by rfl, ?hy142⟩) ?rest142
          case hy142 => (intro w hSw; (try dsimp only at hSw); go_simp; try with_reducible rfl)
          simp only [Act.put, List.getElem_toArray, List.getElem_cons_zero, List.getElem_cons_succ, List.setIfInBounds_toArray, List.set_cons_zero, List.set_cons_succ]
          refine tkY 24 (v := ?v143) rfl (.inl ⟨by rfl, ?hy143⟩) ?rest143
          case hy143 => (intro w hSw; (try dsimp only at hSw); go_simp; try with_reducible rfl)
          simp only [Act.put, List.getElem_toArray, List.getElem_cons_zero, List.getElem_cons_succ, List.setIfInBounds_toArray, List.set_cons_zero, List.set_cons_succ]
          refine tkY 25 (v := ?v144) rfl (.inl ⟨by rfl, ?hy144⟩) ?rest144
          case hy144 => (intro w hSw; (try dsimp only at hSw); go_simp; try with_reducible rfl)
          simp only [Act.put, List.getElem_toArray, List.getElem_cons_zero, List.getElem_cons_succ, List.setIfInBounds_toArray, List.set_cons_zero, List.set_cons_succ]
          refine tkY 26 (v := ?v145) rfl (.inl ⟨by rfl, ?hy145⟩) ?rest145
          case hy145 => (intro w hSw; (try dsimp only at hSw); go_simp; try with_reducible rfl)
          simp only [Act.put, List.getElem_toArray, List.getElem_cons_zero, List.getElem_cons_succ, List.setIfInBounds_toArray, List.set_cons_zero, List.set_cons_succ]
          refine wpAnyH_done (by kernel_rfl) ?_ _
          have hO9 := hHeld
          clear c0_0 c0_1 cf0
          have hst : VT.stepK 6 s.data.toList = (VT.parse (s.extract 4 (s.size - 1)).data.toList).map (.of 6) := by
           rw [stepK_doc (by decide) hyd.out, sub_list, show (VT.nameK 6).length = 3 from rfl]
          have hse : (s.extract 4 (s.size - 1)).size ≤ s.size - 1 := by simp [ByteArray.size_extract] <;> omega
          replace hst := Lib.hid hst
          repeat' ((fail_if_success at_builtin); (first | go_skip | go_guarded | go_step))
          have IH := ih.out (s.extract 4 (s.size - 1)) w7 (by omega) (by omega)
          generalize hp : VT.parse (s.extract 4 (s.size - 1)).data.toList = op at IH
          rw [hst.out, hp] at hu
          replace hp := Lib.hid hp
          refine IH.mono ?_
          clear IH
          rintro e8 w8 ⟨A8, n8, c8, rfl, hr8, hb8⟩
          dsimp only
          have hO10 := hO9.kept hb8
          have hb9 := hO9.below
          have hb10 := hO10.below
          cases op with
          | none =>
           have hu2 : VT.readF (kinds8.drop (6 + 1 : Int).toNat) s.data.toList = fin := hu
           replace hu2 := Lib.hid hu2
           clear hu
           dsimp only [Option.getD, Option.isSome]
           go_upto_region 10 with (fail)
           generalize hx_ : World.alloc w8 _ = wo11
           have hO11 : OwnB w wo11 [(w8.heap.size, [.int .i64 ((VT.base 0).kind : Int), .slice A8 n8 c8]), (w.heap.size, [.int .i64 0, .slice none 0 0])] := by rw [← hx_]; exact hO10.new #[.int .i64 ((VT.base 0).kind : Int), .slice A8 n8 c8] _ (g := w8.heap.size)
           clear hx_ hO10
           have c0_0 := hO11.c 0 0
           have c0_1 := hO11.c 0 1
           have cf0 := hO11.fr 0
           have c1_0 := hO11.c 1 0
           have c1_1 := hO11.c 1 1
           have cf1 := hO11.fr 1
           repeat' ((fail_if_success at_builtin); (first | go_skip | go_guarded | go_step))
           go_roundw
           case rel => exact ⟨6 + 1, by omega, by omega, by first | rfl | go_num, hO11.drop1, hu2.out⟩
           case measure => (try go_num); (try simp [intOf]); (try omega)
          | some v =>
           have hfin : fin = some (.of 6 v) := hu.symm
           replace hfin := Lib.hid hfin
           clear hu
           dsimp only [Option.getD, Option.isSome]
           go_upto_region 10 with (fail)
           generalize hx_ : World.alloc w8 _ = wo11
           have hO11 : OwnB w wo11 [(w8.heap.size, [.int .i64 (v.kind : Int), .slice A8 n8 c8]), (w.heap.size, [.int .i64 0, .slice none 0 0])] := by rw [← hx_]; exact hO10.new #[.int .i64 (v.kind : Int), .slice A8 n8 c8] _ (g := w8.heap.size)
           have hbx : Below w8.heap.size w8 wo11 := by rw [← hx_]; exact (Below.refl _ _).alloc (Nat.le_refl _) _
           clear hx_ hO10
           have c0_0 := hO11.c 0 0
           have c0_1 := hO11.c 0 1
           have cf0 := hO11.fr 0
           have c1_0 := hO11.c 1 0
           have c1_1 := hO11.c 1 1
           have cf1 := hO11.fr 1
           repeat' ((fail_if_success at_builtin); (first | go_skip | go_guarded | go_step))
           refine (with_any (6 : Int) (v.kind : Int) A8 n8 c8 _).mono ?_
           rintro e9 w9 ⟨g9, rfl, hg9, hC9, hb11⟩
           dsimp only
           have hlt9 := hC9.lt
           have hbs := hbx.size
           have hrx : RV w9 (fun b => w7.heap.size ≤ b ∧ b < w8.heap.size) v [.int .i64 (v.kind : Int), .slice A8 n8 c8] := (RV.at_ hr8 (fun b h => h.2) hbx).map (fun p hp => hb11.cell (Nat.lt_of_lt_of_le hp.2 hbs)) (fun b h => h)
           have hbs9 := hb11.size
           have hbl := hO11.lt 1
           have hbs8 := hb8.size
           have hlo7 := hO9.lt 0
           have hO12 : OwnB w w9 [(w8.heap.size, [.int .i64 (v.kind : Int), .slice A8 n8 c8]), (w.heap.size, [.int .i64 0, .slice none 0 0])] := hO11.kept hb11
           clear c0_0 c0_1 cf0 c1_0 c1_1 cf1 hO11
           have c0_0 := hO12.c 0 0
           have c0_1 := hO12.c 0 1
           have cf0 := hO12.fr 0
           have c1_0 := hO12.c 1 0
           have c1_1 := hO12.c 1 1
           have cf1 := hO12.fr 1
           repeat' ((fail_if_success at_builtin); (first | go_skip | go_guarded | go_step))
           have hC8 := cells_back (b4 := w.heap.size) (.int .i64 6) (.slice (some ⟨g9, 0, none⟩) 1 1) hC9 (by omega)
           have hr9 := RV.set2 (g := w.heap.size) (.int .i64 6) (.slice (some ⟨g9, 0, none⟩) 1 1) (fun b h => by have := h.1; omega) hrx
           have hs9 : ((w9.setCell ⟨w.heap.size, 0, none⟩ (.int .i64 6)).setCell ⟨w.heap.size, 1, none⟩ (.slice (some ⟨g9, 0, none⟩) 1 1)).heap.size = w9.heap.size := by simp [World.setCell]
           generalize hx_ : World.setCell (World.setCell _ _ _) _ _ = wo13 at hC8 hr9 hs9 ⊢
           have hO13 : OwnB w wo13 [(w8.heap.size, [.int .i64 (v.kind : Int), .slice A8 n8 c8]), (w.heap.size, [.int .i64 6, .slice (some ⟨g9, 0, none⟩) 1 1])] := by rw [← hx_]; exact (hO12.store 1 rfl 0 _).store 1 rfl 1 _
           clear hx_ c0_0 c0_1 cf0 c1_0 c1_1 cf1 hO12
           have c0_0 := hO13.c 0 0
           have c0_1 := hO13.c 0 1
           have cf0 := hO13.fr 0
           have c1_0 := hO13.c 1 0
           have c1_1 := hO13.c 1 1
           have cf1 := hO13.fr 1
           have hb := hO13.below
           refine bodyPost_ret (v := .tuple #[.agg #[.int .i64 6, .slice (some ⟨g9, 0, none⟩) 1 1], .bool true]) (by simp only [results, Tryd.results50]; go_simp; first | done | exact ⟨rfl, rfl, rfl⟩ | rfl) rfl ?_
           exact retR_some hfin.out hb rfl (rv_mk hC8 ⟨by omega, by omega⟩ (hr9.imp (fun b h => ⟨by have := h.1; omega, by have := h.2; omega⟩)))
         ·
          have q4 : (((s[s.size - 1]'hx7).toNat : Int) == 41) = false := by simp; intro h; exact k4 (UInt8.toNat_inj.1 (by show _ = 41; omega))
          have hnd : ¬ VT.docC 6 s.data.toList := hdn.out (fun h => k4 (by have h2 := h.2.2.2; rw [ha2.out] at h2; injection h2))
          have hst : VT.stepK 6 s.data.toList = none := VT.docC_not (by decide) hnd
          have hu2 : VT.readF (kinds8.drop (6 + 1 : Int).toNat) s.data.toList = fin := by rw [hst] at hu; exact hu
          replace hu2 := Lib.hid hu2
          clear hst hnd hu
          go_upto_region 8 with (fail)
          refine wp_region_held_drew (S := fun w' => OwnB w w' [(w.heap.size, [.int .i64 0, .slice none 0 0])]) (by kernel_rfl) ?_ (fun hHeld => ?_)
          ·
           (try dsimp only)
           exact hO4.drew
          refine tkY 0 (v := ?v146) rfl (.inl ⟨by rfl, ?hy146⟩) ?rest146
          case hy146 => (intro w hSw; (try dsimp only at hSw); go_simp; try with_reducible rfl)
          simp only [Act.put, List.getElem_toArray, List.getElem_cons_zero, List.setIfInBounds_toArray, List.set_cons_zero, List.set_cons_succ]
          refine tkY 1 (v := ?v147) rfl (.inl ⟨by rfl, ?hy147⟩) ?rest147
          case hy147 => (intro w hSw; (try dsimp only at hSw); go_simp; try with_reducible rfl)
          simp only [Act.put, List.getElem_toArray, List.getElem_cons_zero, List.getElem_cons_succ, List.setIfInBounds_toArray, List.set_cons_zero, List.set_cons_succ]
          refine tkY 2 (v := ?v148) rfl (.inl ⟨by rfl, ?hy148⟩) ?rest148
          case hy148 => (intro w hSw; (try dsimp only at hSw); go_simp; try with_reducible rfl)
          simp only [Act.put, List.getElem_toArray, List.getElem_cons_zero, List.getElem_cons_succ, List.setIfInBounds_toArray, List.set_cons_zero, List.set_cons_succ]
          refine tkY 3 (v := ?v149) rfl (.inl ⟨by rfl, ?hy149⟩) ?rest149
          case hy149 => (intro w hSw; (try dsimp only at hSw); go_simp; try with_reducible rfl)
          simp only [Act.put, List.getElem_toArray, List.getElem_cons_zero, List.getElem_cons_succ, List.setIfInBounds_toArray, List.set_cons_zero, List.set_cons_succ]
          refine tkY 4 (v := ?v150) rfl (.inl ⟨by rfl, ?hy150⟩) ?rest150
          case hy150 => (intro w hSw; (try dsimp only at hSw); go_simp; try with_reducible rfl)
          simp only [Act.put, List.getElem_toArray, List.getElem_cons_zero, List.getElem_cons_succ, List.setIfInBounds_toArray, List.set_cons_zero, List.set_cons_succ]
          refine tkY 5 (v := ?v151) rfl (.inl ⟨by rfl, ?hy151⟩) ?rest151
          case hy151 => (intro w hSw; (try dsimp only at hSw); go_simp; try with_reducible rfl)
          simp only [Act.put, List.getElem_toArray, List.getElem_cons_zero, List.getElem_cons_succ, List.setIfInBounds_toArray, List.set_cons_zero, List.set_cons_succ]
          refine tkY 6 (v := ?v152) rfl (.inl ⟨by rfl, ?hy152⟩) ?rest152
          case hy152 => (intro w hSw; (try dsimp only at hSw); go_simp; try with_reducible rfl)
          simp only [Act.put, List.getElem_toArray, List.getElem_cons_zero, List.getElem_cons_succ, List.setIfInBounds_toArray, List.set_cons_zero, List.set_cons_succ]
          refine tkY 7 (v := ?v153) rfl (.inl ⟨by rfl, ?hy153⟩) ?rest153
          case hy153 => (intro w hSw; (try dsimp only at hSw); go_simp; try with_reducible rfl)
          simp only [Act.put, List.getElem_toArray, List.getElem_cons_zero, List.getElem_cons_succ, List.setIfInBounds_toArray, List.set_cons_zero, List.set_cons_succ]
          refine tkY 8 (v := ?v154) rfl (.inl ⟨by rfl, ?hy154⟩) ?rest154
          case hy154 => (intro w hSw; (try dsimp only at hSw); go_simp; try with_reducible rfl)
          simp only [Act.put, List.getElem_toArray, List.getElem_cons_zero, List.getElem_cons_succ, List.setIfInBounds_toArray, List.set_cons_zero, List.set_cons_succ]
          refine tkY 9 (v := ?v155) rfl (.inl ⟨by rfl, ?hy155⟩) ?rest155
          case hy155 => (intro w hSw; (try dsimp only at hSw); go_simp; try with_reducible rfl)
          simp only [Act.put, List.getElem_toArray, List.getElem_cons_zero, List.getElem_cons_succ, List.setIfInBounds_toArray, List.set_cons_zero, List.set_cons_succ]
          refine wpAnyH_ready (rs := [10]) (by kernel_rfl) (by simp) ?_
          refine AllReadyH.cons rfl (fun K hK => ?_) AllReadyH.nil
          go_simp
          go_at_call 60
          refine (CN.out _).mono ?_
          rintro e7 w7 ⟨rfl, hbq⟩
          dsimp only
          refine hK.out _ _ ?_ (fun hHeld => ?_)
          ·
           (try dsimp only)
           exact hHeld.kept hbq
          clear hK K
          try simp only [Act.put, List.getElem_toArray, List.getElem_cons_zero, List.getElem_cons_succ, List.setIfInBounds_toArray, List.set_cons_zero, List.set_cons_succ]
          refine tkY 11 (v := ?v156) rfl (.inl ⟨by rfl, ?hy156⟩) ?rest156
          case hy156 => (intro w hSw; (try dsimp only at hSw); go_simp; try with_reducible rfl)
          simp only [Act.put, List.getElem_toArray, List.getElem_cons_zero, List.getElem_cons_succ, List.setIfInBounds_toArray, List.set_cons_zero, List.set_cons_succ]
          refine tkY 12 (v := ?v157) rfl (.inl ⟨by rfl, ?hy157⟩) ?rest157
          case hy157 => (intro w hSw; (try dsimp only at hSw); go_simp; try with_reducible rfl)
          simp only [Act.put, List.getElem_toArray, List.getElem_cons_zero, List.getElem_cons_succ, List.setIfInBounds_toArray, List.set_cons_zero, List.set_cons_succ]
          refine tkY 13 (v := ?v158) rfl (.inl ⟨by rfl, ?hy158⟩) ?rest158
          case hy158 => (intro w hSw; (try dsimp only at hSw); go_simp; try with_reducible rfl)
          simp only [Act.put, List.getElem_toArray, List.getElem_cons_zero, List.getElem_cons_succ, List.setIfInBounds_toArray, List.set_cons_zero, List.set_cons_succ]
          refine tkY 14 (v := ?v159) rfl (.inl ⟨by rfl, ?hy159⟩) ?rest159
          case hy159 => (intro w hSw; (try dsimp only at hSw); go_simp; try with_reducible rfl)
          simp only [Act.put, List.getElem_toArray, List.getElem_cons_zero, List.getElem_cons_succ, List.setIfInBounds_toArray, List.set_cons_zero, List.set_cons_succ]
          refine tkY 15 (v := ?v160) rfl (.inl ⟨by rfl, ?hy160⟩) ?rest160
          case hy160 => (intro w hSw; (try dsimp only at hSw); go_simp; try with_reducible rfl)
          simp only [Act.put, List.getElem_toArray, List.getElem_cons_zero, List.getElem_cons_succ, List.setIfInBounds_toArray, List.set_cons_zero, List.set_cons_succ]
          refine tkY 16 (v := ?v161) rfl (.inl ⟨by rfl, ?hy161⟩) ?rest161
          case hy161 => (intro w hSw; (try dsimp only at hSw); go_simp; try with_reducible rfl)
          simp only [Act.put, List.getElem_toArray, List.getElem_cons_zero, List.getElem_cons_succ, List.setIfInBounds_toArray, List.set_cons_zero, List.set_cons_succ]
          refine tkY 17 (v := ?v162) rfl (.inl ⟨by rfl, ?hy162⟩) ?rest162
          case hy162 => (intro w hSw; (try dsimp only at hSw); go_simp; try with_reducible rfl)
          simp only [Act.put, List.getElem_toArray, List.getElem_cons_zero, List.getElem_cons_succ, List.setIfInBounds_toArray, List.set_cons_zero, List.set_cons_succ]
          refine tkY 18 (v := ?v163) rfl (.inl ⟨by rfl, ?hy163⟩) ?rest163
          case hy163 => (intro w hSw; (try dsimp only at hSw); go_simp; try with_reducible rfl)
          simp only [Act.put, List.getElem_toArray, List.getElem_cons_zero, List.getElem_cons_succ, List.setIfInBounds_toArray, List.set_cons_zero, List.set_cons_succ]
          refine tkY 19 (v := ?v164) rfl (.inl ⟨by rfl, ?hy164⟩) ?rest164
          case hy164 => (intro w hSw; (try dsimp only at hSw); go_simp; try with_reducible rfl)
          simp only [Act.put, List.getElem_toArray, List.getElem_cons_zero, List.getElem_cons_succ, List.setIfInBounds_toArray, List.set_cons_zero, List.set_cons_succ]
          refine tkY 20 (v := ?v165) rfl (.inl ⟨by rfl, ?hy165⟩) ?rest165
          case hy165 => (intro w hSw; (try dsimp only at hSw); go_simp; try with_reducible rfl)
          simp only [Act.put, List.getElem_toArray, List.getElem_cons_zero, List.getElem_cons_succ, List.setIfInBounds_toArray, List.set_cons_zero, List.set_cons_succ]
          refine tkY 21 (v := ?v166) rfl (.inl ⟨by rfl, ?hy166⟩) ?rest166
          case hy166 => (intro w hSw; (try dsimp only at hSw); go_simp; try with_reducible rfl)
          simp only [Act.put, List.getElem_toArray, List.getElem_cons_zero, List.getElem_cons_succ, List.setIfInBounds_toArray, List.set_cons_zero, List.set_cons_succ]
          refine tkY 22 (v := ?v167) rfl (.inl ⟨by rfl, ?hy167⟩) ?rest167
          case hy167 => (intro w hSw; (try dsimp only at hSw); go_simp; try with_reducible rfl)
          simp only [Act.put, List.getElem_toArray, List.getElem_cons_zero, List.getElem_cons_succ, List.setIfInBounds_toArray, List.set_cons_zero, List.set_cons_succ]
          refine tkY 23 (v := ?v168) rfl (.inl ⟨by rfl, ?hy168⟩) ?rest168
          case hy168 => (intro w hSw; (try dsimp only at hSw); go_simp; try with_reducible rfl)
          simp only [Act.put, List.getElem_toArray, List.getElem_cons_zero, List.getElem_cons_succ, List.setIfInBounds_toArray, List.set_cons_zero, List.set_cons_succ]
          refine tkY 24 (v := ?v169) rfl (.inl ⟨by rfl, ?hy169⟩) ?rest169
          case hy169 => (intro w hSw; (try dsimp only at hSw); go_simp; try with_reducible rfl)
          simp only [Act.put, List.getElem_toArray, List.getElem_cons_zero, List.getElem_cons_succ, List.setIfInBounds_toArray, List.set_cons_zero, List.set_cons_succ]
          refine tkY 25 (v := ?v170) rfl (.inl ⟨by rfl, ?hy170⟩) ?rest170
          case hy170 => (intro w hSw; (try dsimp only at hSw); go_simp; try with_reducible rfl)
          simp only [Act.put, List.getElem_toArray, List.getElem_cons_zero, List.getElem_cons_succ, List.setIfInBounds_toArray, List.set_cons_zero, List.set_cons_succ]
          refine tkY 26 (v := ?v171) rfl (.inl ⟨by rfl, ?hy171⟩) ?rest171
          case hy171 => (intro w hSw; (try dsimp only at hSw); go_simp; try with_reducible rfl)
          simp only [Act.put, List.getElem_toArray, List.getElem_cons_zero, List.getElem_cons_succ, List.setIfInBounds_toArray, List.set_cons_zero, List.set_cons_succ]
          refine wpAnyH_done (by kernel_rfl) ?_ _
          have hO9 := hHeld
          repeat' ((fail_if_success at_builtin); (first | go_skip | go_guarded | go_step))
          go_roundw
          case rel => exact ⟨6 + 1, by omega, by omega, by first | rfl | go_num, hO9, hu2.out⟩
          case measure => (try go_num); (try simp [intOf]); (try omega)
        ·
         have q3 : (((s[3]'hx2).toNat : Int) == 40) = false := by simp; intro h; exact k3 (UInt8.toNat_inj.1 (by show _ = 40; omega))
         have hnd : ¬ VT.docC 6 s.data.toList := hdn.out (fun h => k3 (by have h2 := h.2.2.1; rw [ha1.out] at h2; injection h2))
         have hst : VT.stepK 6 s.data.toList = none := VT.docC_not (by decide) hnd
         have hu2 : VT.readF (kinds8.drop (6 + 1 : Int).toNat) s.data.toList = fin := by rw [hst] at hu; exact hu
         replace hu2 := Lib.hid hu2
         clear hst hnd hu
         go_upto_region 8 with (fail)
         refine wp_region_held_drew (S := fun w' => OwnB w w' [(w.heap.size, [.int .i64 0, .slice none 0 0])]) (by kernel_rfl) ?_ (fun hHeld => ?_)
         ·
          (try dsimp only)
          exact hO4.drew
         refine tkY 0 (v := ?v172) rfl (.inl ⟨by rfl, ?hy172⟩) ?rest172
         case hy172 => (intro w hSw; (try dsimp only at hSw); go_simp; try with_reducible rfl)
         simp only [Act.put, List.getElem_toArray, List.getElem_cons_zero, List.setIfInBounds_toArray, List.set_cons_zero, List.set_cons_succ]
         refine tkY 1 (v := ?v173) rfl (.inl ⟨by rfl, ?hy173⟩) ?rest173
         case hy173 => (intro w hSw; (try dsimp only at hSw); go_simp; try with_reducible rfl)
         simp only [Act.put, List.getElem_toArray, List.getElem_cons_zero, List.getElem_cons_succ, List.setIfInBounds_toArray, List.set_cons_zero, List.set_cons_succ]
         refine tkY 2 (v := ?v174) rfl (.inl ⟨by rfl, ?hy174⟩) ?rest174
         case hy174 => (intro w hSw; (try dsimp only at hSw); go_simp; try with_reducible rfl)
         simp only [Act.put, List.getElem_toArray, List.getElem_cons_zero, List.getElem_cons_succ, List.setIfInBounds_toArray, List.set_cons_zero, List.set_cons_succ]
         refine tkY 3 (v := ?v175) rfl (.inl ⟨by rfl, ?hy175⟩) ?rest175
         case hy175 => (intro w hSw; (try dsimp only at hSw); go_simp; try with_reducible rfl)
         simp only [Act.put, List.getElem_toArray, List.getElem_cons_zero, List.getElem_cons_succ, List.setIfInBounds_toArray, List.set_cons_zero, List.set_cons_succ]
         refine tkY 4 (v := ?v176) rfl (.inl ⟨by rfl, ?hy176⟩) ?rest176
         case hy176 => (intro w hSw; (try dsimp only at hSw); go_simp; try with_reducible rfl)
         simp only [Act.put, List.getElem_toArray, List.getElem_cons_zero, List.getElem_cons_succ, List.setIfInBounds_toArray, List.set_cons_zero, List.set_cons_succ]
         refine tkY 5 (v := ?v177) rfl (.inl ⟨by rfl, ?hy177⟩) ?rest177
         case hy177 => (intro w hSw; (try dsimp only at hSw); go_simp; try with_reducible rfl)
         simp only [Act.put, List.getElem_toArray, List.getElem_cons_zero, List.getElem_cons_succ, List.setIfInBounds_toArray, List.set_cons_zero, List.set_cons_succ]
         refine tkY 6 (v := ?v178) rfl (.inl ⟨by rfl, ?hy178⟩) ?rest178
         case hy178 => (intro w hSw; (try dsimp only at hSw); go_simp; try with_reducible rfl)
         simp only [Act.put, List.getElem_toArray, List.getElem_cons_zero, List.getElem_cons_succ, List.setIfInBounds_toArray, List.set_cons_zero, List.set_cons_succ]
         refine tkY 7 (v := ?v179) rfl (.inl ⟨by rfl, ?hy179⟩) ?rest179
         case hy179 => (intro w hSw; (try dsimp only at hSw); go_simp; try with_reducible rfl)
         simp only [Act.put, List.getElem_toArray, List.getElem_cons_zero, List.getElem_cons_succ, List.setIfInBounds_toArray, List.set_cons_zero, List.set_cons_succ]
         refine tkY 8 (v := ?v180) rfl (.inl ⟨by rfl, ?hy180⟩) ?rest180
         case hy180 => (intro w hSw; (try dsimp only at hSw); go_simp; try with_reducible rfl)
         simp only [Act.put, List.getElem_toArray, List.getElem_cons_zero, List.getElem_cons_succ, List.setIfInBounds_toArray, List.set_cons_zero, List.set_cons_succ]
         refine tkY 9 (v := ?v181) rfl (.inl ⟨by rfl, ?hy181⟩) ?rest181
         case hy181 => (intro w hSw; (try dsimp only at hSw); go_simp; try with_reducible rfl)
         simp only [Act.put, List.getElem_toArray, List.getElem_cons_zero, List.getElem_cons_succ, List.setIfInBounds_toArray, List.set_cons_zero, List.set_cons_succ]
         refine wpAnyH_ready (rs := [10]) (by kernel_rfl) (by simp) ?_
         refine AllReadyH.cons rfl (fun K hK => ?_) AllReadyH.nil
         go_simp
         go_at_call 60
         refine (CN.out _).mono ?_
         rintro e7 w7 ⟨rfl, hbq⟩
         dsimp only
         refine hK.out _ _ ?_ (fun hHeld => ?_)
         ·
          (try dsimp only)
          exact hHeld.kept hbq
         clear hK K
         try simp only [Act.put, List.getElem_toArray, List.getElem_cons_zero, List.getElem_cons_succ, List.setIfInBounds_toArray, List.set_cons_zero, List.set_cons_succ]
         refine tkY 11 (v := ?v182) rfl (.inl ⟨by rfl, ?hy182⟩) ?rest182
         case hy182 => (intro w hSw; (try dsimp only at hSw); go_simp; try with_reducible rfl)
         simp only [Act.put, List.getElem_toArray, List.getElem_cons_zero, List.getElem_cons_succ, List.setIfInBounds_toArray, List.set_cons_zero, List.set_cons_succ]
         refine tkY 12 (v := ?v183) rfl (.inl ⟨by rfl, ?hy183⟩) ?rest183
         case hy183 => (intro w hSw; (try dsimp only at hSw); go_simp; try with_reducible rfl)
         simp only [Act.put, List.getElem_toArray, List.getElem_cons_zero, List.getElem_cons_succ, List.setIfInBounds_toArray, List.set_cons_zero, List.set_cons_succ]
         refine tkY 13 (v := ?v184) rfl (.inl ⟨by rfl, ?hy184⟩) ?rest184
         case hy184 => (intro w hSw; (try dsimp only at hSw); go_simp; try with_reducible rfl)
         simp only [Act.put, List.getElem_toArray, List.getElem_cons_zero, List.getElem_cons_succ, List.setIfInBounds_toArray, List.set_cons_zero, List.set_cons_succ]
         refine tkY 14 (v := ?v185) rfl (.inl ⟨by rfl, ?hy185⟩) ?rest185
         case hy185 => (intro w hSw; (try dsimp only at hSw); go_simp; try with_reducible rfl)
         simp only [Act.put, List.getElem_toArray, List.getElem_cons_zero, List.getElem_cons_succ, List.setIfInBounds_toArray, List.set_cons_zero, List.set_cons_succ]
         refine tkY 15 (v := ?v186) rfl (.inl ⟨by rfl, ?hy186⟩) ?rest186
         case hy186 => (intro w hSw; (try dsimp only at hSw); go_simp; try with_reducible rfl)
         simp only [Act.put, List.getElem_toArray, List.getElem_cons_zero, List.getElem_cons_succ, List.setIfInBounds_toArray, List.set_cons_zero, List.set_cons_succ]
         refine tkY 16 (v := ?v187) rfl (.inl ⟨by rfl, ?hy187⟩) ?rest187
         case hy187 => (intro w hSw; (try dsimp only at hSw); go_simp; try with_reducible rfl)
         simp only [Act.put, List.getElem_toArray, List.getElem_cons_zero, List.getElem_cons_succ, List.setIfInBounds_toArray, List.set_cons_zero, List.set_cons_succ]
         refine tkY 17 (v := ?v188) rfl (.inl ⟨by rfl, ?hy188⟩) ?rest188
         case hy188 => (intro w hSw; (try dsimp only at hSw); go_simp; try with_reducible rfl)
         simp only [Act.put, List.getElem_toArray, List.getElem_cons_zero, List.getElem_cons_succ, List.setIfInBounds_toArray, List.set_cons_zero, List.set_cons_succ]
         refine tkY 18 (v := ?v189) rfl (.inl ⟨by rfl, ?hy189⟩) ?rest189
         case hy189 => (intro w hSw; (try dsimp only at hSw); go_simp; try with_reducible rfl)
         simp only [Act.put, List.getElem_toArray, List.getElem_cons_zero, List.getElem_cons_succ, List.setIfInBounds_toArray, List.set_cons_zero, List.set_cons_succ]
         refine tkY 19 (v := ?v190) rfl (.inl ⟨by rfl, ?hy190⟩) ?rest190
         case hy190 => (intro w hSw; (try dsimp only at hSw); go_simp; try with_reducible rfl)
         simp only [Act.put, List.getElem_toArray, List.getElem_cons_zero, List.getElem_cons_succ, List.setIfInBounds_toArray, List.set_cons_zero, List.set_cons_succ]
         refine tkN 20 rfl ?_
         simp only [Act.put, List.getElem_toArray, List.getElem_cons_zero, List.getElem_cons_succ, List.setIfInBounds_toArray, List.set_cons_zero, List.set_cons_succ]
         refine tkN 21 rfl ?_
         simp only [Act.put, List.getElem_toArray, List.getElem_cons_zero, List.getElem_cons_succ, List.setIfInBounds_toArray, List.set_cons_zero, List.set_cons_succ]
         refine tkN 22 rfl ?_
         simp only [Act.put, List.getElem_toArray, List.getElem_cons_zero, List.getElem_cons_succ, List.setIfInBounds_toArray, List.set_cons_zero, List.set_cons_succ]
         refine tkN 23 rfl ?_
         simp only [Act.put, List.getElem_toArray, List.getElem_cons_zero, List.getElem_cons_succ, List.setIfInBounds_toArray, List.set_cons_zero, List.set_cons_succ]
         refine tkN 24 rfl ?_
         simp only [Act.put, List.getElem_toArray, List.getElem_cons_zero, List.getElem_cons_succ, List.setIfInBounds_toArray, List.set_cons_zero, List.set_cons_succ]
         refine tkN 25 rfl ?_
         simp only [Act.put, List.getElem_toArray, List.getElem_cons_zero, List.getElem_cons_succ, List.setIfInBounds_toArray, List.set_cons_zero, List.set_cons_succ]
         refine tkY 26 (v := ?v191) rfl (.inl ⟨by rfl, ?hy191⟩) ?rest191
         case hy191 => (intro w hSw; (try dsimp only at hSw); go_simp; try with_reducible rfl)
         simp only [Act.put, List.getElem_toArray, List.getElem_cons_zero, List.getElem_cons_succ, List.setIfInBounds_toArray, List.set_cons_zero, List.set_cons_succ]
         refine wpAnyH_done (by kernel_rfl) ?_ _
         have hO9 := hHeld
         repeat' ((fail_if_success at_builtin); (first | go_skip | go_guarded | go_step))
         go_roundw
         case rel => exact ⟨6 + 1, by omega, by omega, by first | rfl | go_num, hO9, hu2.out⟩
         case measure => (try go_num); (try simp [intOf]); (try omega)
       ·
        have q2 : ((s.extract 0 3).toList == nmS.toList) = false := by rw [beq_eq_false_iff_ne]; exact k2
        have hnd : ¬ VT.docC 6 s.data.toList := hdn.out (fun h => k2 h.2.1)
        have hst : VT.stepK 6 s.data.toList = none := VT.docC_not (by decide) hnd
        have hu2 : VT.readF (kinds8.drop (6 + 1 : Int).toNat) s.data.toList = fin := by rw [hst] at hu; exact hu
        replace hu2 := Lib.hid hu2
        clear hst hnd hu
        go_upto_region 8 with (fail)
        refine wp_region_held_drew (S := fun w' => OwnB w w' [(w.heap.size, [.int .i64 0, .slice none 0 0])]) (by kernel_rfl) ?_ (fun hHeld => ?_)
        ·
         (try dsimp only)
         exact hO4.drew
        refine tkY 0 (v := ?v192) rfl (.inl ⟨by rfl, ?hy192⟩) ?rest192
        case hy192 => (intro w hSw; (try dsimp only at hSw); go_simp; try with_reducible rfl)
        simp only [Act.put, List.getElem_toArray, List.getElem_cons_zero, List.setIfInBounds_toArray, List.set_cons_zero, List.set_cons_succ]
        refine tkY 1 (v := ?v193) rfl (.inl ⟨by rfl, ?hy193⟩) ?rest193
        case hy193 => (intro w hSw; (try dsimp only at hSw); go_simp; try with_reducible rfl)
        simp only [Act.put, List.getElem_toArray, List.getElem_cons_zero, List.getElem_cons_succ, List.setIfInBounds_toArray, List.set_cons_zero, List.set_cons_succ]
        refine tkY 2 (v := ?v194) rfl (.inl ⟨by rfl, ?hy194⟩) ?rest194
        case hy194 => (intro w hSw; (try dsimp only at hSw); go_simp; try with_reducible rfl)
        simp only [Act.put, List.getElem_toArray, List.getElem_cons_zero, List.getElem_cons_succ, List.setIfInBounds_toArray, List.set_cons_zero, List.set_cons_succ]
        refine tkY 3 (v := ?v195) rfl (.inl ⟨by rfl, ?hy195⟩) ?rest195
        case hy195 => (intro w hSw; (try dsimp only at hSw); go_simp; try with_reducible rfl)
        simp only [Act.put, List.getElem_toArray, List.getElem_cons_zero, List.getElem_cons_succ, List.setIfInBounds_toArray, List.set_cons_zero, List.set_cons_succ]
        refine tkY 4 (v := ?v196) rfl (.inl ⟨by rfl, ?hy196⟩) ?rest196
        case hy196 => (intro w hSw; (try dsimp only at hSw); go_simp; try with_reducible rfl)
        simp only [Act.put, List.getElem_toArray, List.getElem_cons_zero, List.getElem_cons_succ, List.setIfInBounds_toArray, List.set_cons_zero, List.set_cons_succ]
        refine tkY 5 (v := ?v197) rfl (.inl ⟨by rfl, ?hy197⟩) ?rest197
        case hy197 => (intro w hSw; (try dsimp only at hSw); go_simp; try with_reducible rfl)
        simp only [Act.put, List.getElem_toArray, List.getElem_cons_zero, List.getElem_cons_succ, List.setIfInBounds_toArray, List.set_cons_zero, List.set_cons_succ]
        refine tkY 6 (v := ?v198) rfl (.inl ⟨by rfl, ?hy198⟩) ?rest198
        case hy198 => (intro w hSw; (try dsimp only at hSw); go_simp; try with_reducible rfl)
        simp only [Act.put, List.getElem_toArray, List.getElem_cons_zero, List.getElem_cons_succ, List.setIfInBounds_toArray, List.set_cons_zero, List.set_cons_succ]
        refine tkY 7 (v := ?v199) rfl (.inl ⟨by rfl, ?hy199⟩) ?rest199
        case hy199 => (intro w hSw; (try dsimp only at hSw); go_simp; try with_reducible rfl)
        simp only [Act.put, List.getElem_toArray, List.getElem_cons_zero, List.getElem_cons_succ, List.setIfInBounds_toArray, List.set_cons_zero, List.set_cons_succ]
        refine tkY 8 (v := ?v200) rfl (.inl ⟨by rfl, ?hy200⟩) ?rest200
        case hy200 => (intro w hSw; (try dsimp only at hSw); go_simp; try with_reducible rfl)
        simp only [Act.put, List.getElem_toArray, List.getElem_cons_zero, List.getElem_cons_succ, List.setIfInBounds_toArray, List.set_cons_zero, List.set_cons_succ]
        refine tkY 9 (v := ?v201) rfl (.inl ⟨by rfl, ?hy201⟩) ?rest201
        case hy201 => (intro w hSw; (try dsimp only at hSw); go_simp; try with_reducible rfl)
        simp only [Act.put, List.getElem_toArray, List.getElem_cons_zero, List.getElem_cons_succ, List.setIfInBounds_toArray, List.set_cons_zero, List.set_cons_succ]
        refine wpAnyH_ready (rs := [10]) (by kernel_rfl) (by simp) ?_
        refine AllReadyH.cons rfl (fun K hK => ?_) AllReadyH.nil
        go_simp
        go_at_call 60
        refine (CN.out _).mono ?_
        rintro e7 w7 ⟨rfl, hbq⟩
        dsimp only
        refine hK.out _ _ ?_ (fun hHeld => ?_)
        ·
         (try dsimp only)
         exact hHeld.kept hbq
        clear hK K
        try simp only [Act.put, List.getElem_toArray, List.getElem_cons_zero, List.getElem_cons_succ, List.setIfInBounds_toArray, List.set_cons_zero, List.set_cons_succ]
        refine tkY 11 (v := ?v202) rfl (.inl ⟨by rfl, ?hy202⟩) ?rest202
        case hy202 => (intro w hSw; (try dsimp only at hSw); go_simp; try with_reducible rfl)
        simp only [Act.put, List.getElem_toArray, List.getElem_cons_zero, List.getElem_cons_succ, List.setIfInBounds_toArray, List.set_cons_zero, List.set_cons_succ]
        refine tkY 12 (v := ?v203) rfl (.inl ⟨by rfl, ?hy203⟩) ?rest203
        case hy203 => (intro w hSw; (try dsimp only at hSw); go_simp; try with_reducible rfl)
        simp only [Act.put, List.getElem_toArray, List.getElem_cons_zero, List.getElem_cons_succ, List.setIfInBounds_toArray, List.set_cons_zero, List.set_cons_succ]
        refine tkY 13 (v := ?v204) rfl (.inl ⟨by rfl, ?hy204⟩) ?rest204
        case hy204 => (intro w hSw; (try dsimp only at hSw); go_simp; try with_reducible rfl)
        simp only [Act.put, List.getElem_toArray, List.getElem_cons_zero, List.getElem_cons_succ, List.setIfInBounds_toArray, List.set_cons_zero, List.set_cons_succ]
        refine tkN 14 rfl ?_
        simp only [Act.put, List.getElem_toArray, List.getElem_cons_zero, List.getElem_cons_succ, List.setIfInBounds_toArray, List.set_cons_zero, List.set_cons_succ]
        refine tkN 15 rfl ?_
        simp only [Act.put, List.getElem_toArray, List.getElem_cons_zero, List.getElem_cons_succ, List.setIfInBounds_toArray, List.set_cons_zero, List.set_cons_succ]
        refine tkN 16 rfl ?_
        simp only [Act.put, List.getElem_toArray, List.getElem_cons_zero, List.getElem_cons_succ, List.setIfInBounds_toArray, List.set_cons_zero, List.set_cons_succ]
        refine tkN 17 rfl ?_
        simp only [Act.put, List.getElem_toArray, List.getElem_cons_zero, List.getElem_cons_succ, List.setIfInBounds_toArray, List.set_cons_zero, List.set_cons_succ]
        refine tkY 18 (v := ?v205) rfl (.inl ⟨by rfl, ?hy205⟩) ?rest205
        case hy205 => (intro w hSw; (try dsimp only at hSw); go_simp; try with_reducible rfl)
        simp only [Act.put, List.getElem_toArray, List.getElem_cons_zero, List.getElem_cons_succ, List.setIfInBounds_toArray, List.set_cons_zero, List.set_cons_succ]
        refine tkY 19 (v := ?v206) rfl (.inl ⟨by rfl, ?hy206⟩) ?rest206
        case hy206 => (intro w hSw; (try dsimp only at hSw); go_simp; try with_reducible rfl)
        simp only [Act.put, List.getElem_toArray, List.getElem_cons_zero, List.getElem_cons_succ, List.setIfInBounds_toArray, List.set_cons_zero, List.set_cons_succ]
        refine tkN 20 rfl ?_
        simp only [Act.put, List.getElem_toArray, List.getElem_cons_zero, List.getElem_cons_succ, List.setIfInBounds_toArray, List.set_cons_zero, List.set_cons_succ]
        refine tkN 21 rfl ?_
        simp only [Act.put, List.getElem_toArray, List.getElem_cons_zero, List.getElem_cons_succ, List.setIfInBounds_toArray, List.set_cons_zero, List.set_cons_succ]
        refine tkN 22 rfl ?_
        simp only [Act.put, List.getElem_toArray, List.getElem_cons_zero, List.getElem_cons_succ, List.setIfInBounds_toArray, List.set_cons_zero, List.set_cons_succ]
        refine tkN 23 rfl ?_
        simp only [Act.put, List.getElem_toArray, List.getElem_cons_zero, List.getElem_cons_succ, List.setIfInBounds_toArray, List.set_cons_zero, List.set_cons_succ]
        refine tkN 24 rfl ?_
        simp only [Act.put, List.getElem_toArray, List.getElem_cons_zero, List.getElem_cons_succ, List.setIfInBounds_toArray, List.set_cons_zero, List.set_cons_succ]
        refine tkN 25 rfl ?_
        simp only [Act.put, List.getElem_toArray, List.getElem_cons_zero, List.getElem_cons_succ, List.setIfInBounds_toArray, List.set_cons_zero, List.set_cons_succ]
        refine tkY 26 (v := ?v207) rfl (.inl ⟨by rfl, ?hy207⟩) ?rest207
        case hy207 => (intro w hSw; (try dsimp only at hSw); go_simp; try with_reducible rfl)
        simp only [Act.put, List.getElem_toArray, List.getElem_cons_zero, List.getElem_cons_succ, List.setIfInBounds_toArray, List.set_cons_zero, List.set_cons_succ]
        refine wpAnyH_done (by kernel_rfl) ?_ _
        have hO9 := hHeld
        repeat' ((fail_if_success at_builtin); (first | go_skip | go_guarded | go_step))
        go_roundw
        case rel => exact ⟨6 + 1, by omega, by omega, by first | rfl | go_num, hO9, hu2.out⟩
        case measure => (try go_num); (try simp [intOf]); (try omega)
      ·
       have g1 : ¬ (5 : Int) < (s.size : Int) := by omega
       have hnd : ¬ VT.docC 6 s.data.toList := hdn.out (fun h => k1 h.1)
       have hst : VT.stepK 6 s.data.toList = none := VT.docC_not (by decide) hnd
       have hu2 : VT.readF (kinds8.drop (6 + 1 : Int).toNat) s.data.toList = fin := by rw [hst] at hu; exact hu
       replace hu2 := Lib.hid hu2
       clear hst hnd hu
       go_upto_region 8 with (fail)
       refine wp_region_held_drew (S := fun w' => OwnB w w' [(w.heap.size, [.int .i64 0, .slice none 0 0])]) (by kernel_rfl) ?_ (fun hHeld => ?_)
       ·
        (try dsimp only)
        exact hO4.drew
       refine tkY 0 (v := ?v208) rfl (.inl ⟨by rfl, ?hy208⟩) ?rest208
       case hy208 => (intro w hSw; (try dsimp only at hSw); go_simp; try with_reducible rfl)
       simp only [Act.put, List.getElem_toArray, List.getElem_cons_zero, List.setIfInBounds_toArray, List.set_cons_zero, List.set_cons_succ]
       refine tkY 1 (v := ?v209) rfl (.inl ⟨by rfl, ?hy209⟩) ?rest209
       case hy209 => (intro w hSw; (try dsimp only at hSw); go_simp; try with_reducible rfl)
       simp only [Act.put, List.getElem_toArray, List.getElem_cons_zero, List.getElem_cons_succ, List.setIfInBounds_toArray, List.set_cons_zero, List.set_cons_succ]
       refine tkY 2 (v := ?v210) rfl (.inl ⟨by rfl, ?hy210⟩) ?rest210
       case hy210 => (intro w hSw; (try dsimp only at hSw); go_simp; try with_reducible rfl)
       simp only [Act.put, List.getElem_toArray, List.getElem_cons_zero, List.getElem_cons_succ, List.setIfInBounds_toArray, List.set_cons_zero, List.set_cons_succ]
       refine tkY 3 (v := ?v211) rfl (.inl ⟨by rfl, ?hy211⟩) ?rest211
       case hy211 => (intro w hSw; (try dsimp only at hSw); go_simp; try with_reducible rfl)
       simp only [Act.put, List.getElem_toArray, List.getElem_cons_zero, List.getElem_cons_succ, List.setIfInBounds_toArray, List.set_cons_zero, List.set_cons_succ]
       refine tkY 4 (v := ?v212) rfl (.inl ⟨by rfl, ?hy212⟩) ?rest212
       case hy212 => (intro w hSw; (try dsimp only at hSw); go_simp; try with_reducible rfl)
       simp only [Act.put, List.getElem_toArray, List.getElem_cons_zero, List.getElem_cons_succ, List.setIfInBounds_toArray, List.set_cons_zero, List.set_cons_succ]
       refine tkY 5 (v := ?v213) rfl (.inl ⟨by rfl, ?hy213⟩) ?rest213
       case hy213 => (intro w hSw; (try dsimp only at hSw); go_simp; try with_reducible rfl)
       simp only [Act.put, List.getElem_toArray, List.getElem_cons_zero, List.getElem_cons_succ, List.setIfInBounds_toArray, List.set_cons_zero, List.set_cons_succ]
       refine tkN 6 rfl ?_
       simp only [Act.put, List.getElem_toArray, List.getElem_cons_zero, List.getElem_cons_succ, List.setIfInBounds_toArray, List.set_cons_zero, List.set_cons_succ]
       refine tkN 7 rfl ?_
       simp only [Act.put, List.getElem_toArray, List.getElem_cons_zero, List.getElem_cons_succ, List.setIfInBounds_toArray, List.set_cons_zero, List.set_cons_succ]
       refine tkN 8 rfl ?_
       simp only [Act.put, List.getElem_toArray, List.getElem_cons_zero, List.getElem_cons_succ, List.setIfInBounds_toArray, List.set_cons_zero, List.set_cons_succ]
       refine tkN 9 rfl ?_
       simp only [Act.put, List.getElem_toArray, List.getElem_cons_zero, List.getElem_cons_succ, List.setIfInBounds_toArray, List.set_cons_zero, List.set_cons_succ]
       refine tkN 10 rfl ?_
       simp only [Act.put, List.getElem_toArray, List.getElem_cons_zero, List.getElem_cons_succ, List.setIfInBounds_toArray, List.set_cons_zero, List.set_cons_succ]
       refine tkN 11 rfl ?_
       simp only [Act.put, List.getElem_toArray, List.getElem_cons_zero, List.getElem_cons_succ, List.setIfInBounds_toArray, List.set_cons_zero, List.set_cons_succ]
       refine tkY 12 (v := ?v214) rfl (.inl ⟨by rfl, ?hy214⟩) ?rest214
       case hy214 => (intro w hSw; (try dsimp only at hSw); go_simp; try with_reducible rfl)
       simp only [Act.put, List.getElem_toArray, List.getElem_cons_zero, List.getElem_cons_succ, List.setIfInBounds_toArray, List.set_cons_zero, List.set_cons_succ]
       refine tkY 13 (v := ?v215) rfl (.inl ⟨by rfl, ?hy215⟩) ?rest215
       case hy215 => (intro w hSw; (try dsimp only at hSw); go_simp; try with_reducible rfl)
       simp only [Act.put, List.getElem_toArray, List.getElem_cons_zero, List.getElem_cons_succ, List.setIfInBounds_toArray, List.set_cons_zero, List.set_cons_succ]
       refine tkN 14 rfl ?_
       simp only [Act.put, List.getElem_toArray, List.getElem_cons_zero, List.getElem_cons_succ, List.setIfInBounds_toArray, List.set_cons_zero, List.set_cons_succ]
       refine tkN 15 rfl ?_
       simp only [Act.put, List.getElem_toArray, List.getElem_cons_zero, List.getElem_cons_succ, List.setIfInBounds_toArray, List.set_cons_zero, List.set_cons_succ]
       refine tkN 16 rfl ?_
       simp only [Act.put, List.getElem_toArray, List.getElem_cons_zero, List.getElem_cons_succ, List.setIfInBounds_toArray, List.set_cons_zero, List.set_cons_succ]
       refine tkN 17 rfl ?_
       simp only [Act.put, List.getElem_toArray, List.getElem_cons_zero, List.getElem_cons_succ, List.setIfInBounds_toArray, List.set_cons_zero, List.set_cons_succ]
       refine tkY 18 (v := ?v216) rfl (.inl ⟨by rfl, ?hy216⟩) ?rest216
       case hy216 => (intro w hSw; (try dsimp only at hSw); go_simp; try with_reducible rfl)
       simp only [Act.put, List.getElem_toArray, List.getElem_cons_zero, List.getElem_cons_succ, List.setIfInBounds_toArray, List.set_cons_zero, List.set_cons_succ]
       refine tkY 19 (v := ?v217) rfl (.inl ⟨by rfl, ?hy217⟩) ?rest217
       case hy217 => (intro w hSw; (try dsimp only at hSw); go_simp; try with_reducible rfl)
       simp only [Act.put, List.getElem_toArray, List.getElem_cons_zero, List.getElem_cons_succ, List.setIfInBounds_toArray, List.set_cons_zero, List.set_cons_succ]
       refine tkN 20 rfl ?_
       simp only [Act.put, List.getElem_toArray, List.getElem_cons_zero, List.getElem_cons_succ, List.setIfInBounds_toArray, List.set_cons_zero, List.set_cons_succ]
       refine tkN 21 rfl ?_
       simp only [Act.put, List.getElem_toArray, List.getElem_cons_zero, List.getElem_cons_succ, List.setIfInBounds_toArray, List.set_cons_zero, List.set_cons_succ]
       refine tkN 22 rfl ?_
       simp only [Act.put, List.getElem_toArray, List.getElem_cons_zero, List.getElem_cons_succ, List.setIfInBounds_toArray, List.set_cons_zero, List.set_cons_succ]
       refine tkN 23 rfl ?_
       simp only [Act.put, List.getElem_toArray, List.getElem_cons_zero, List.getElem_cons_succ, List.setIfInBounds_toArray, List.set_cons_zero, List.set_cons_succ]
       refine tkN 24 rfl ?_
       simp only [Act.put, List.getElem_toArray, List.getElem_cons_zero, List.getElem_cons_succ, List.setIfInBounds_toArray, List.set_cons_zero, List.set_cons_succ]
       refine tkN 25 rfl ?_
       simp only [Act.put, List.getElem_toArray, List.getElem_cons_zero, List.getElem_cons_succ, List.setIfInBounds_toArray, List.set_cons_zero, List.set_cons_succ]
       refine tkY 26 (v := ?v218) rfl (.inl ⟨by rfl, ?hy218⟩) ?rest218
       case hy218 => (intro w hSw; (try dsimp only at hSw); go_simp; try with_reducible rfl)
       simp only [Act.put, List.getElem_toArray, List.getElem_cons_zero, List.getElem_cons_succ, List.setIfInBounds_toArray, List.set_cons_zero, List.set_cons_succ]
       refine wpAnyH_done (by kernel_rfl) ?_ _
       have hO9 := hHeld
       repeat' ((fail_if_success at_builtin); (first | go_skip | go_guarded | go_step))
       go_roundw
       case rel => exact ⟨6 + 1, by omega, by omega, by first | rfl | go_num, hO9, hu2.out⟩
       case measure => (try go_num); (try simp [intOf]); (try omega)
    ·
     have hh : holdsK z = false := by unfold holdsK; simp; omega
     rw [hh]
     clear hh
     have hst := stepK_base (k := z.toNat) (s := s.data.toList) (by omega)
     have hzz : ((z.toNat : Nat) : Int) = z := by omega
     have hnz : nameZ z = VT.nameK z.toNat := by unfold nameZ; rw [if_pos (by omega)]
     replace hst := Lib.hid hst
     replace hzz := Lib.hid hzz
     repeat' ((fail_if_success at_builtin); (first | go_skip | go_guarded | go_step))
     refine (rnameI_any z _ (by omega) i7).mono ?_
     rintro e w4 ⟨rfl, hb4⟩
     rw [hnz]
     dsimp only
     clear hnz
     have hO4 : OwnB w w4 [(w.heap.size, [.int .i64 0, .slice none 0 0])] := hO3.kept hb4
     clear c0_0 c0_1 cf0 hO3
     have c0_0 := hO4.c 0 0
     have c0_1 := hO4.c 0 1
     have cf0 := hO4.fr 0
     by_cases hx : s.data.toList = VT.nameK z.toNat
     ·
      have q1 : (s.toList == (strS (VT.nameK z.toNat)).toList) = true := by rw [strS_toList, ByteArray.toList_eq, hx]; simp
      have q2 : (s.toList == VT.nameK z.toNat) = true := by rw [ByteArray.toList_eq, hx]; simp
      rw [hst.out, if_pos hx] at hu
      have hfin : fin = some (.base z.toNat) := hu.symm
      replace hfin := Lib.hid hfin
      clear hu hx
      generalize VT.nameK z.toNat = nm at *
      repeat' ((fail_if_success at_builtin); (first | go_skip | go_guarded | go_step))
      refine (plainT_any z _).mono ?_
      rintro e5 w5 ⟨rfl, hb5⟩
      dsimp only
      have hO5 : OwnB w w5 [(w.heap.size, [.int .i64 0, .slice none 0 0])] := hO4.kept hb5
      clear c0_0 c0_1 cf0 hO4
      have c0_0 := hO5.c 0 0
      have c0_1 := hO5.c 0 1
      have cf0 := hO5.fr 0
      repeat' ((fail_if_success at_builtin); (first | go_skip | go_guarded | go_step))
      generalize hx_ : World.setCell (World.setCell _ _ _) _ _ = wo6
      have hO6 : OwnB w wo6 [(w.heap.size, [.int .i64 z, .slice none 0 0])] := by rw [← hx_]; exact (hO5.store 0 rfl 0 _).store 0 rfl 1 _
      clear hx_ c0_0 c0_1 cf0 hO5
      have c0_0 := hO6.c 0 0
      have c0_1 := hO6.c 0 1
      have cf0 := hO6.fr 0
      have hb := hO6.below
      refine bodyPost_ret (v := .tuple #[.agg #[.int .i64 z, .slice none 0 0], .bool true]) (by simp only [results, Tryd.results50]; go_simp; first | done | exact ⟨rfl, rfl, rfl⟩ | rfl) rfl ?_
      exact retR_some (v := .base z.toNat) hfin.out hb (by rw [show ((VT.base z.toNat).kind : Int) = z from hzz.out]) (rv_scalar _ _ _)
     ·
      have q1 : (s.toList == (strS (VT.nameK z.toNat)).toList) = false := by rw [strS_toList, ByteArray.toList_eq, beq_eq_false_iff_ne]; exact hx
      have q2 : (s.toList == VT.nameK z.toNat) = false := by rw [ByteArray.toList_eq, beq_eq_false_iff_ne]; exact hx
      rw [hst.out, if_neg hx] at hu
      have hu2 : VT.readF (kinds8.drop (z + 1).toNat) s.data.toList = fin := hu
      replace hu2 := Lib.hid hu2
      clear hu hx
      generalize VT.nameK z.toNat = nm at *
      repeat' ((fail_if_success at_builtin); (first | go_skip | go_guarded | go_step))
      go_roundw
      case rel => exact ⟨z + 1, by omega, by omega, by first | rfl | go_num, hO4, hu2.out⟩
      case measure => (try go_num); (try simp [intOf]); (try omega)
   ·
    obtain rfl : z = 8 := by omega
    have hfin : fin = none := hu.symm
    replace hfin := Lib.hid hfin
    clear hu
    repeat' ((fail_if_success at_builtin); (first | go_skip | go_guarded | go_step))
    generalize hx_ : World.setCell (World.setCell _ _ _) _ _ = wo3
    have hO3 : OwnB w wo3 [(w.heap.size, [.int .i64 0, .slice none 0 0])] := by rw [← hx_]; exact (hO2.store 0 rfl 0 _).store 0 rfl 1 _
    clear hx_ c0_0 c0_1 cf0 hO2
    have c0_0 := hO3.c 0 0
    have c0_1 := hO3.c 0 1
    have cf0 := hO3.fr 0
    have hb := hO3.below
    refine bodyPost_ret (v := .tuple #[.agg #[.int .i64 0, .slice none 0 0], .bool false]) (by simp only [results, Tryd.results50]; go_simp; first | done | exact ⟨rfl, rfl, rfl⟩ | rfl) rfl ?_
    exact retR_zero hfin.out hb rfl
end Go.Proofs.YtgcpffbaejodiaaDoor
