/- Typing: the law about the lattice. -/
import Derived.Test.YtgcpffbaejodiaaDoorTyLb
import Derived.Test.YtgcpffbaejodiaaDoorHk
namespace Go.Proofs.YtgcpffbaejodiaaDoor
open Go.RowKit
set_option maxRecDepth 100000 in
set_option maxHeartbeats 6000000 in
theorem lattice_law (ga : Nat) (ta : Ty) (ka : Int) (Aa : Option Addr) (na ca : Nat) (gb : Nat) (tb : Ty) (kb : Int) (Ab : Option Addr) (nb cb : Nat) (gc : Nat) (tc : Ty) (kc : Int) (Ac : Option Addr) (nc cc : Nat) (gv : Nat) (v : Vl) (k : Int) (b9 : Bool) (i : Int) (s : ByteArray) (A : Option Addr) (n c : Nat) (A2 : Option Addr) (n2 c2 : Nat) (w : World) (ha : RTf ga w (fun b => b < w.heap.size) ta [.int .i64 ka, .slice Aa na ca]) (hb : RTf gb w (fun b => b < w.heap.size) tb [.int .i64 kb, .slice Ab nb cb]) (hc : RTf gc w (fun b => b < w.heap.size) tc [.int .i64 kc, .slice Ac nc cc]) (hv : RVl gv w (fun b => b < w.heap.size) v [.int .i64 k, .bool b9, .int .i64 i, .string s, .slice A n c, .slice A2 n2 c2]) :
  Calls Tryd.prog 6 #[.agg #[.int .i64 ka, .slice Aa na ca, .int .i64 kb, .slice Ab nb cb, .int .i64 kc, .slice Ac nc cc], .agg #[.int .i64 k, .bool b9, .int .i64 i, .string s, .slice A n c, .slice A2 n2 c2]] w fun e w' => e = .returned (.bool true) ∧ Below w.heap.size w w' := by
 go_enter Tryd.func6, Tryd.ntmps6
 go_upto_region 1 with (fail)
 generalize hx_ : World.alloc (World.alloc w _) _ = wo1
 have hO1 : OwnB w wo1 [(w.heap.size + 1, [.int .i64 k, .bool b9, .int .i64 i, .string s, .slice A n c, .slice A2 n2 c2]), (w.heap.size, [.int .i64 ka, .slice Aa na ca, .int .i64 kb, .slice Ab nb cb, .int .i64 kc, .slice Ac nc cc])] := by rw [← hx_]; exact ((OwnB.refl w).new #[.int .i64 ka, .slice Aa na ca, .int .i64 kb, .slice Ab nb cb, .int .i64 kc, .slice Ac nc cc] _ (g := w.heap.size)).new #[.int .i64 k, .bool b9, .int .i64 i, .string s, .slice A n c, .slice A2 n2 c2] _ (g := w.heap.size + 1)
 clear hx_
 have c0_0 := hO1.c 0 0
 have c0_1 := hO1.c 0 1
 have c0_2 := hO1.c 0 2
 have c0_3 := hO1.c 0 3
 have c0_4 := hO1.c 0 4
 have c0_5 := hO1.c 0 5
 have cf0 := hO1.fr 0
 have c1_0 := hO1.c 1 0
 have c1_1 := hO1.c 1 1
 have c1_2 := hO1.c 1 2
 have c1_3 := hO1.c 1 3
 have c1_4 := hO1.c 1 4
 have c1_5 := hO1.c 1 5
 have cf1 := hO1.fr 1
 go_cut [5, 6, 7] (fun u5 u6 u7 wx => ∃ (wq : World) (pa pb pc : Nat), wq = wx ∧ u5 = .pointer (some ⟨pa, 0, none⟩) ∧ u6 = .pointer (some ⟨pb, 0, none⟩) ∧ u7 = .pointer (some ⟨pc, 0, none⟩) ∧ CellsAt wx pa [.int .i64 ka, .slice Aa na ca] ∧ CellsAt wx pb [.int .i64 kb, .slice Ab nb cb] ∧ CellsAt wx pc [.int .i64 kc, .slice Ac nc cc] ∧ Below wo1.heap.size wo1 wx)
 case first => as_aux_lemma =>
  have mkS : ∀ v1 : World, Below wo1.heap.size wo1 v1 → (Below wo1.heap.size wo1 v1 ∧ v1.cell? ⟨w.heap.size, 0, none⟩ = some (.int .i64 ka) ∧ v1.cell? ⟨w.heap.size, 1, none⟩ = some (.slice Aa na ca) ∧ v1.cell? ⟨w.heap.size, 2, none⟩ = some (.int .i64 kb) ∧ v1.cell? ⟨w.heap.size, 3, none⟩ = some (.slice Ab nb cb) ∧ v1.cell? ⟨w.heap.size, 4, none⟩ = some (.int .i64 kc) ∧ v1.cell? ⟨w.heap.size, 5, none⟩ = some (.slice Ac nc cc)) := fun v1 h => ⟨h, (hO1.kept h).c 1 0, (hO1.kept h).c 1 1, (hO1.kept h).c 1 2, (hO1.kept h).c 1 3, (hO1.kept h).c 1 4, (hO1.kept h).c 1 5⟩
  have hS1 : (Below wo1.heap.size wo1 wo1.drew ∧ wo1.drew.cell? ⟨w.heap.size, 0, none⟩ = some (.int .i64 ka) ∧ wo1.drew.cell? ⟨w.heap.size, 1, none⟩ = some (.slice Aa na ca) ∧ wo1.drew.cell? ⟨w.heap.size, 2, none⟩ = some (.int .i64 kb) ∧ wo1.drew.cell? ⟨w.heap.size, 3, none⟩ = some (.slice Ab nb cb) ∧ wo1.drew.cell? ⟨w.heap.size, 4, none⟩ = some (.int .i64 kc) ∧ wo1.drew.cell? ⟨w.heap.size, 5, none⟩ = some (.slice Ac nc cc)) := mkS _ ((Below.refl _ _).drew)
  replace mkS := Lib.hid mkS
  clear c0_0 c0_1 c0_2 c0_3 c0_4 c0_5 cf0 c1_0 c1_1 c1_2 c1_3 c1_4 c1_5 cf1
  refine wp_region_held_drew (S := fun w' => Below wo1.heap.size wo1 w' ∧ w'.cell? ⟨w.heap.size, 0, none⟩ = some (.int .i64 ka) ∧ w'.cell? ⟨w.heap.size, 1, none⟩ = some (.slice Aa na ca) ∧ w'.cell? ⟨w.heap.size, 2, none⟩ = some (.int .i64 kb) ∧ w'.cell? ⟨w.heap.size, 3, none⟩ = some (.slice Ab nb cb) ∧ w'.cell? ⟨w.heap.size, 4, none⟩ = some (.int .i64 kc) ∧ w'.cell? ⟨w.heap.size, 5, none⟩ = some (.slice Ac nc cc)) (by kernel_rfl) ?_ (fun hHeld => ?_)
  ·
   (try dsimp only)
   exact hS1
  refine tkY 0 (v := ?v45) rfl (.inl ⟨by rfl, ?hy45⟩) ?hr45
  case hy45 => (intro w hSw; (try dsimp only at hSw); go_simp; try with_reducible rfl)
  simp only [Act.put, List.getElem_toArray, List.getElem_cons_zero, List.getElem_cons_succ, List.setIfInBounds_toArray, List.set_cons_zero, List.set_cons_succ]
  refine tkY 1 (v := ?v46) rfl (.inl ⟨by rfl, ?hy46⟩) ?hr46
  case hy46 => (intro w hSw; (try dsimp only at hSw); go_simp; try with_reducible rfl)
  simp only [Act.put, List.getElem_toArray, List.getElem_cons_zero, List.getElem_cons_succ, List.setIfInBounds_toArray, List.set_cons_zero, List.set_cons_succ]
  refine tkY 2 (v := ?v47) rfl (.inl ⟨by rfl, ?hy47⟩) ?hr47
  case hy47 => (intro w hSw; (try dsimp only at hSw); go_simp; try with_reducible rfl)
  simp only [Act.put, List.getElem_toArray, List.getElem_cons_zero, List.getElem_cons_succ, List.setIfInBounds_toArray, List.set_cons_zero, List.set_cons_succ]
  refine tkY 3 (v := ?v48) rfl (.inl ⟨by rfl, ?hy48⟩) ?hr48
  case hy48 => (intro w hSw; (try dsimp only at hSw); go_simp; try with_reducible rfl)
  simp only [Act.put, List.getElem_toArray, List.getElem_cons_zero, List.getElem_cons_succ, List.setIfInBounds_toArray, List.set_cons_zero, List.set_cons_succ]
  refine tkY 4 (v := ?v49) rfl (.inl ⟨by rfl, ?hy49⟩) ?hr49
  case hy49 => (intro w hSw; (try dsimp only at hSw); go_simp; try with_reducible rfl)
  simp only [Act.put, List.getElem_toArray, List.getElem_cons_zero, List.getElem_cons_succ, List.setIfInBounds_toArray, List.set_cons_zero, List.set_cons_succ]
  refine tkY 5 (v := ?v50) rfl (.inl ⟨by rfl, ?hy50⟩) ?hr50
  case hy50 => (intro w hSw; (try dsimp only at hSw); go_simp; try with_reducible rfl)
  simp only [Act.put, List.getElem_toArray, List.getElem_cons_zero, List.getElem_cons_succ, List.setIfInBounds_toArray, List.set_cons_zero, List.set_cons_succ]
  refine wpAnyH_ready (rs := [6, 7, 8]) (by kernel_rfl) (by simp) ?_
  refine AllReadyH.cons rfl (fun K hK => ?_) ?_
  ·
   go_simp
   refine hK.out _ _ ?_ (fun hHeld => ?_)
   ·
    (try dsimp only)
    exact mkS.out _ (((Below.refl _ _).drew).alloc (by simp <;> omega) _)
   clear hK K
   try simp only [Act.put, List.getElem_toArray, List.getElem_cons_zero, List.getElem_cons_succ, List.setIfInBounds_toArray, List.set_cons_zero, List.set_cons_succ]
   refine wpAnyH_ready (rs := [7, 8]) (by kernel_rfl) (by simp) ?_
   refine AllReadyH.cons rfl (fun K hK => ?_) ?_
   ·
    go_simp
    refine hK.out _ _ ?_ (fun hHeld => ?_)
    ·
     (try dsimp only)
     exact mkS.out _ ((((Below.refl _ _).drew).alloc (by simp <;> omega) _).alloc (by simp <;> omega) _)
    clear hK K
    try simp only [Act.put, List.getElem_toArray, List.getElem_cons_zero, List.getElem_cons_succ, List.setIfInBounds_toArray, List.set_cons_zero, List.set_cons_succ]
    refine wpAnyH_ready (rs := [8]) (by kernel_rfl) (by simp) ?_
    refine AllReadyH.cons rfl (fun K hK => ?_) ?_
    ·
     go_simp
     refine hK.out _ _ ?_ (fun hHeld => ?_)
     ·
      (try dsimp only)
      exact mkS.out _ (((((Below.refl _ _).drew).alloc (by simp <;> omega) _).alloc (by simp <;> omega) _).alloc (by simp <;> omega) _)
     clear hK K
     try simp only [Act.put, List.getElem_toArray, List.getElem_cons_zero, List.getElem_cons_succ, List.setIfInBounds_toArray, List.set_cons_zero, List.set_cons_succ]
     refine wpAnyH_ready (rs := [9]) (by kernel_rfl) (by simp) ?_
     refine AllReadyH.cons rfl (fun K hK => ?_) ?_
     ·
      go_simp
      refine hK.out _ _ ?_ (fun hHeld => ?_)
      ·
       (try dsimp only)
       exact mkS.out _ (((((Below.refl _ _).drew).alloc (by simp <;> omega) _).alloc (by simp <;> omega) _).alloc (by simp <;> omega) _)
      clear hK K
      try simp only [Act.put, List.getElem_toArray, List.getElem_cons_zero, List.getElem_cons_succ, List.setIfInBounds_toArray, List.set_cons_zero, List.set_cons_succ]
      refine wpAnyH_ready (rs := [10]) (by kernel_rfl) (by simp) ?_
      refine AllReadyH.cons rfl (fun K hK => ?_) ?_
      ·
       go_simp
       refine hK.out _ _ ?_ (fun hHeld => ?_)
       ·
        (try dsimp only)
        exact mkS.out _ (((((Below.refl _ _).drew).alloc (by simp <;> omega) _).alloc (by simp <;> omega) _).alloc (by simp <;> omega) _)
       clear hK K
       try simp only [Act.put, List.getElem_toArray, List.getElem_cons_zero, List.getElem_cons_succ, List.setIfInBounds_toArray, List.set_cons_zero, List.set_cons_succ]
       refine wpAnyH_ready (rs := [11]) (by kernel_rfl) (by simp) ?_
       refine AllReadyH.cons rfl (fun K hK => ?_) ?_
       ·
        go_simp
        refine hK.out _ _ ?_ (fun hHeld => ?_)
        ·
         (try dsimp only)
         exact mkS.out _ (((((Below.refl _ _).drew).alloc (by simp <;> omega) _).alloc (by simp <;> omega) _).alloc (by simp <;> omega) _)
        clear hK K
        try simp only [Act.put, List.getElem_toArray, List.getElem_cons_zero, List.getElem_cons_succ, List.setIfInBounds_toArray, List.set_cons_zero, List.set_cons_succ]
        refine wpAnyH_done (by kernel_rfl) ?_ _
        have hX := (((OwnB.refl wo1).new #[.int .i64 ka, .slice Aa na ca] 24 (g := wo1.heap.size) (hg := by simp)).new #[.int .i64 kb, .slice Ab nb cb] 24 (g := wo1.heap.size + 1) (hg := by simp)).new #[.int .i64 kc, .slice Ac nc cc] 24 (g := wo1.heap.size + 2) (hg := by simp)
        generalize hx_ : World.alloc (World.alloc (World.alloc _ _) _) _ = wz
        rw [hx_] at hX
        clear hx_ hHeld
        repeat' ((fail_if_success at_builtin); (first | go_skip | go_guarded | go_step))
        go_meet
        case rel => first | exact ⟨_, wo1.heap.size, wo1.heap.size + 1, wo1.heap.size + 2, rfl, rfl, rfl, rfl, (hX.all 2 _ _ rfl).2, (hX.all 1 _ _ rfl).2, (hX.all 0 _ _ rfl).2, hX.below⟩ | exact ⟨_, wo1.heap.size, wo1.heap.size + 1, wo1.heap.size + 2, rfl, rfl, rfl, rfl, (hX.drew.all 2 _ _ rfl).2, (hX.drew.all 1 _ _ rfl).2, (hX.drew.all 0 _ _ rfl).2, hX.drew.below⟩
       exact AllReadyH.nil
      exact AllReadyH.nil
     exact AllReadyH.nil
    exact AllReadyH.nil
   refine AllReadyH.cons rfl (fun K hK => ?_) ?_
   ·
    go_simp
    refine hK.out _ _ ?_ (fun hHeld => ?_)
    ·
     (try dsimp only)
     exact mkS.out _ ((((Below.refl _ _).drew).alloc (by simp <;> omega) _).alloc (by simp <;> omega) _)
    clear hK K
    try simp only [Act.put, List.getElem_toArray, List.getElem_cons_zero, List.getElem_cons_succ, List.setIfInBounds_toArray, List.set_cons_zero, List.set_cons_succ]
    refine wpAnyH_ready (rs := [7]) (by kernel_rfl) (by simp) ?_
    refine AllReadyH.cons rfl (fun K hK => ?_) ?_
    ·
     go_simp
     refine hK.out _ _ ?_ (fun hHeld => ?_)
     ·
      (try dsimp only)
      exact mkS.out _ (((((Below.refl _ _).drew).alloc (by simp <;> omega) _).alloc (by simp <;> omega) _).alloc (by simp <;> omega) _)
     clear hK K
     try simp only [Act.put, List.getElem_toArray, List.getElem_cons_zero, List.getElem_cons_succ, List.setIfInBounds_toArray, List.set_cons_zero, List.set_cons_succ]
     refine wpAnyH_ready (rs := [9]) (by kernel_rfl) (by simp) ?_
     refine AllReadyH.cons rfl (fun K hK => ?_) ?_
     ·
      go_simp
      refine hK.out _ _ ?_ (fun hHeld => ?_)
      ·
       (try dsimp only)
       exact mkS.out _ (((((Below.refl _ _).drew).alloc (by simp <;> omega) _).alloc (by simp <;> omega) _).alloc (by simp <;> omega) _)
      clear hK K
      try simp only [Act.put, List.getElem_toArray, List.getElem_cons_zero, List.getElem_cons_succ, List.setIfInBounds_toArray, List.set_cons_zero, List.set_cons_succ]
      refine wpAnyH_ready (rs := [10]) (by kernel_rfl) (by simp) ?_
      refine AllReadyH.cons rfl (fun K hK => ?_) ?_
      ·
       go_simp
       refine hK.out _ _ ?_ (fun hHeld => ?_)
       ·
        (try dsimp only)
        exact mkS.out _ (((((Below.refl _ _).drew).alloc (by simp <;> omega) _).alloc (by simp <;> omega) _).alloc (by simp <;> omega) _)
       clear hK K
       try simp only [Act.put, List.getElem_toArray, List.getElem_cons_zero, List.getElem_cons_succ, List.setIfInBounds_toArray, List.set_cons_zero, List.set_cons_succ]
       refine wpAnyH_ready (rs := [11]) (by kernel_rfl) (by simp) ?_
       refine AllReadyH.cons rfl (fun K hK => ?_) ?_
       ·
        go_simp
        refine hK.out _ _ ?_ (fun hHeld => ?_)
        ·
         (try dsimp only)
         exact mkS.out _ (((((Below.refl _ _).drew).alloc (by simp <;> omega) _).alloc (by simp <;> omega) _).alloc (by simp <;> omega) _)
        clear hK K
        try simp only [Act.put, List.getElem_toArray, List.getElem_cons_zero, List.getElem_cons_succ, List.setIfInBounds_toArray, List.set_cons_zero, List.set_cons_succ]
        refine wpAnyH_done (by kernel_rfl) ?_ _
        have hX := (((OwnB.refl wo1).new #[.int .i64 ka, .slice Aa na ca] 24 (g := wo1.heap.size) (hg := by simp)).new #[.int .i64 kc, .slice Ac nc cc] 24 (g := wo1.heap.size + 1) (hg := by simp)).new #[.int .i64 kb, .slice Ab nb cb] 24 (g := wo1.heap.size + 2) (hg := by simp)
        generalize hx_ : World.alloc (World.alloc (World.alloc _ _) _) _ = wz
        rw [hx_] at hX
        clear hx_ hHeld
        repeat' ((fail_if_success at_builtin); (first | go_skip | go_guarded | go_step))
        go_meet
        case rel => first | exact ⟨_, wo1.heap.size, wo1.heap.size + 2, wo1.heap.size + 1, rfl, rfl, rfl, rfl, (hX.all 2 _ _ rfl).2, (hX.all 0 _ _ rfl).2, (hX.all 1 _ _ rfl).2, hX.below⟩ | exact ⟨_, wo1.heap.size, wo1.heap.size + 2, wo1.heap.size + 1, rfl, rfl, rfl, rfl, (hX.drew.all 2 _ _ rfl).2, (hX.drew.all 0 _ _ rfl).2, (hX.drew.all 1 _ _ rfl).2, hX.drew.below⟩
       exact AllReadyH.nil
      exact AllReadyH.nil
     exact AllReadyH.nil
    exact AllReadyH.nil
   exact AllReadyH.nil
  refine AllReadyH.cons rfl (fun K hK => ?_) ?_
  ·
   go_simp
   refine hK.out _ _ ?_ (fun hHeld => ?_)
   ·
    (try dsimp only)
    exact mkS.out _ (((Below.refl _ _).drew).alloc (by simp <;> omega) _)
   clear hK K
   try simp only [Act.put, List.getElem_toArray, List.getElem_cons_zero, List.getElem_cons_succ, List.setIfInBounds_toArray, List.set_cons_zero, List.set_cons_succ]
   refine wpAnyH_ready (rs := [6, 8]) (by kernel_rfl) (by simp) ?_
   refine AllReadyH.cons rfl (fun K hK => ?_) ?_
   ·
    go_simp
    refine hK.out _ _ ?_ (fun hHeld => ?_)
    ·
     (try dsimp only)
     exact mkS.out _ ((((Below.refl _ _).drew).alloc (by simp <;> omega) _).alloc (by simp <;> omega) _)
    clear hK K
    try simp only [Act.put, List.getElem_toArray, List.getElem_cons_zero, List.getElem_cons_succ, List.setIfInBounds_toArray, List.set_cons_zero, List.set_cons_succ]
    refine wpAnyH_ready (rs := [8]) (by kernel_rfl) (by simp) ?_
    refine AllReadyH.cons rfl (fun K hK => ?_) ?_
    ·
     go_simp
     refine hK.out _ _ ?_ (fun hHeld => ?_)
     ·
      (try dsimp only)
      exact mkS.out _ (((((Below.refl _ _).drew).alloc (by simp <;> omega) _).alloc (by simp <;> omega) _).alloc (by simp <;> omega) _)
     clear hK K
     try simp only [Act.put, List.getElem_toArray, List.getElem_cons_zero, List.getElem_cons_succ, List.setIfInBounds_toArray, List.set_cons_zero, List.set_cons_succ]
     refine wpAnyH_ready (rs := [9]) (by kernel_rfl) (by simp) ?_
     refine AllReadyH.cons rfl (fun K hK => ?_) ?_
     ·
      go_simp
      refine hK.out _ _ ?_ (fun hHeld => ?_)
      ·
       (try dsimp only)
       exact mkS.out _ (((((Below.refl _ _).drew).alloc (by simp <;> omega) _).alloc (by simp <;> omega) _).alloc (by simp <;> omega) _)
      clear hK K
      try simp only [Act.put, List.getElem_toArray, List.getElem_cons_zero, List.getElem_cons_succ, List.setIfInBounds_toArray, List.set_cons_zero, List.set_cons_succ]
      refine wpAnyH_ready (rs := [10]) (by kernel_rfl) (by simp) ?_
      refine AllReadyH.cons rfl (fun K hK => ?_) ?_
      ·
       go_simp
       refine hK.out _ _ ?_ (fun hHeld => ?_)
       ·
        (try dsimp only)
        exact mkS.out _ (((((Below.refl _ _).drew).alloc (by simp <;> omega) _).alloc (by simp <;> omega) _).alloc (by simp <;> omega) _)
       clear hK K
       try simp only [Act.put, List.getElem_toArray, List.getElem_cons_zero, List.getElem_cons_succ, List.setIfInBounds_toArray, List.set_cons_zero, List.set_cons_succ]
       refine wpAnyH_ready (rs := [11]) (by kernel_rfl) (by simp) ?_
       refine AllReadyH.cons rfl (fun K hK => ?_) ?_
       ·
        go_simp
        refine hK.out _ _ ?_ (fun hHeld => ?_)
        ·
         (try dsimp only)
         exact mkS.out _ (((((Below.refl _ _).drew).alloc (by simp <;> omega) _).alloc (by simp <;> omega) _).alloc (by simp <;> omega) _)
        clear hK K
        try simp only [Act.put, List.getElem_toArray, List.getElem_cons_zero, List.getElem_cons_succ, List.setIfInBounds_toArray, List.set_cons_zero, List.set_cons_succ]
        refine wpAnyH_done (by kernel_rfl) ?_ _
        have hX := (((OwnB.refl wo1).new #[.int .i64 kb, .slice Ab nb cb] 24 (g := wo1.heap.size) (hg := by simp)).new #[.int .i64 ka, .slice Aa na ca] 24 (g := wo1.heap.size + 1) (hg := by simp)).new #[.int .i64 kc, .slice Ac nc cc] 24 (g := wo1.heap.size + 2) (hg := by simp)
        generalize hx_ : World.alloc (World.alloc (World.alloc _ _) _) _ = wz
        rw [hx_] at hX
        clear hx_ hHeld
        repeat' ((fail_if_success at_builtin); (first | go_skip | go_guarded | go_step))
        go_meet
        case rel => first | exact ⟨_, wo1.heap.size + 1, wo1.heap.size, wo1.heap.size + 2, rfl, rfl, rfl, rfl, (hX.all 1 _ _ rfl).2, (hX.all 2 _ _ rfl).2, (hX.all 0 _ _ rfl).2, hX.below⟩ | exact ⟨_, wo1.heap.size + 1, wo1.heap.size, wo1.heap.size + 2, rfl, rfl, rfl, rfl, (hX.drew.all 1 _ _ rfl).2, (hX.drew.all 2 _ _ rfl).2, (hX.drew.all 0 _ _ rfl).2, hX.drew.below⟩
       exact AllReadyH.nil
      exact AllReadyH.nil
     exact AllReadyH.nil
    exact AllReadyH.nil
   refine AllReadyH.cons rfl (fun K hK => ?_) ?_
   ·
    go_simp
    refine hK.out _ _ ?_ (fun hHeld => ?_)
    ·
     (try dsimp only)
     exact mkS.out _ ((((Below.refl _ _).drew).alloc (by simp <;> omega) _).alloc (by simp <;> omega) _)
    clear hK K
    try simp only [Act.put, List.getElem_toArray, List.getElem_cons_zero, List.getElem_cons_succ, List.setIfInBounds_toArray, List.set_cons_zero, List.set_cons_succ]
    refine wpAnyH_ready (rs := [6]) (by kernel_rfl) (by simp) ?_
    refine AllReadyH.cons rfl (fun K hK => ?_) ?_
    ·
     go_simp
     refine hK.out _ _ ?_ (fun hHeld => ?_)
     ·
      (try dsimp only)
      exact mkS.out _ (((((Below.refl _ _).drew).alloc (by simp <;> omega) _).alloc (by simp <;> omega) _).alloc (by simp <;> omega) _)
     clear hK K
     try simp only [Act.put, List.getElem_toArray, List.getElem_cons_zero, List.getElem_cons_succ, List.setIfInBounds_toArray, List.set_cons_zero, List.set_cons_succ]
     refine wpAnyH_ready (rs := [9]) (by kernel_rfl) (by simp) ?_
     refine AllReadyH.cons rfl (fun K hK => ?_) ?_
     ·
      go_simp
      refine hK.out _ _ ?_ (fun hHeld => ?_)
      ·
       (try dsimp only)
       exact mkS.out _ (((((Below.refl _ _).drew).alloc (by simp <;> omega) _).alloc (by simp <;> omega) _).alloc (by simp <;> omega) _)
      clear hK K
      try simp only [Act.put, List.getElem_toArray, List.getElem_cons_zero, List.getElem_cons_succ, List.setIfInBounds_toArray, List.set_cons_zero, List.set_cons_succ]
      refine wpAnyH_ready (rs := [10]) (by kernel_rfl) (by simp) ?_
      refine AllReadyH.cons rfl (fun K hK => ?_) ?_
      ·
       go_simp
       refine hK.out _ _ ?_ (fun hHeld => ?_)
       ·
        (try dsimp only)
        exact mkS.out _ (((((Below.refl _ _).drew).alloc (by simp <;> omega) _).alloc (by simp <;> omega) _).alloc (by simp <;> omega) _)
       clear hK K
       try simp only [Act.put, List.getElem_toArray, List.getElem_cons_zero, List.getElem_cons_succ, List.setIfInBounds_toArray, List.set_cons_zero, List.set_cons_succ]
       refine wpAnyH_ready (rs := [11]) (by kernel_rfl) (by simp) ?_
       refine AllReadyH.cons rfl (fun K hK => ?_) ?_
       ·
        go_simp
        refine hK.out _ _ ?_ (fun hHeld => ?_)
        ·
         (try dsimp only)
         exact mkS.out _ (((((Below.refl _ _).drew).alloc (by simp <;> omega) _).alloc (by simp <;> omega) _).alloc (by simp <;> omega) _)
        clear hK K
        try simp only [Act.put, List.getElem_toArray, List.getElem_cons_zero, List.getElem_cons_succ, List.setIfInBounds_toArray, List.set_cons_zero, List.set_cons_succ]
        refine wpAnyH_done (by kernel_rfl) ?_ _
        have hX := (((OwnB.refl wo1).new #[.int .i64 kb, .slice Ab nb cb] 24 (g := wo1.heap.size) (hg := by simp)).new #[.int .i64 kc, .slice Ac nc cc] 24 (g := wo1.heap.size + 1) (hg := by simp)).new #[.int .i64 ka, .slice Aa na ca] 24 (g := wo1.heap.size + 2) (hg := by simp)
        generalize hx_ : World.alloc (World.alloc (World.alloc _ _) _) _ = wz
        rw [hx_] at hX
        clear hx_ hHeld
        repeat' ((fail_if_success at_builtin); (first | go_skip | go_guarded | go_step))
        go_meet
        case rel => first | exact ⟨_, wo1.heap.size + 2, wo1.heap.size, wo1.heap.size + 1, rfl, rfl, rfl, rfl, (hX.all 0 _ _ rfl).2, (hX.all 2 _ _ rfl).2, (hX.all 1 _ _ rfl).2, hX.below⟩ | exact ⟨_, wo1.heap.size + 2, wo1.heap.size, wo1.heap.size + 1, rfl, rfl, rfl, rfl, (hX.drew.all 0 _ _ rfl).2, (hX.drew.all 2 _ _ rfl).2, (hX.drew.all 1 _ _ rfl).2, hX.drew.below⟩
       exact AllReadyH.nil
      exact AllReadyH.nil
     exact AllReadyH.nil
    exact AllReadyH.nil
   exact AllReadyH.nil
  refine AllReadyH.cons rfl (fun K hK => ?_) ?_
  ·
   go_simp
   refine hK.out _ _ ?_ (fun hHeld => ?_)
   ·
    (try dsimp only)
    exact mkS.out _ (((Below.refl _ _).drew).alloc (by simp <;> omega) _)
   clear hK K
   try simp only [Act.put, List.getElem_toArray, List.getElem_cons_zero, List.getElem_cons_succ, List.setIfInBounds_toArray, List.set_cons_zero, List.set_cons_succ]
   refine wpAnyH_ready (rs := [6, 7]) (by kernel_rfl) (by simp) ?_
   refine AllReadyH.cons rfl (fun K hK => ?_) ?_
   ·
    go_simp
    refine hK.out _ _ ?_ (fun hHeld => ?_)
    ·
     (try dsimp only)
     exact mkS.out _ ((((Below.refl _ _).drew).alloc (by simp <;> omega) _).alloc (by simp <;> omega) _)
    clear hK K
    try simp only [Act.put, List.getElem_toArray, List.getElem_cons_zero, List.getElem_cons_succ, List.setIfInBounds_toArray, List.set_cons_zero, List.set_cons_succ]
    refine wpAnyH_ready (rs := [7]) (by kernel_rfl) (by simp) ?_
    refine AllReadyH.cons rfl (fun K hK => ?_) ?_
    ·
     go_simp
     refine hK.out _ _ ?_ (fun hHeld => ?_)
     ·
      (try dsimp only)
      exact mkS.out _ (((((Below.refl _ _).drew).alloc (by simp <;> omega) _).alloc (by simp <;> omega) _).alloc (by simp <;> omega) _)
     clear hK K
     try simp only [Act.put, List.getElem_toArray, List.getElem_cons_zero, List.getElem_cons_succ, List.setIfInBounds_toArray, List.set_cons_zero, List.set_cons_succ]
     refine wpAnyH_ready (rs := [9]) (by kernel_rfl) (by simp) ?_
     refine AllReadyH.cons rfl (fun K hK => ?_) ?_
     ·
      go_simp
      refine hK.out _ _ ?_ (fun hHeld => ?_)
      ·
       (try dsimp only)
       exact mkS.out _ (((((Below.refl _ _).drew).alloc (by simp <;> omega) _).alloc (by simp <;> omega) _).alloc (by simp <;> omega) _)
      clear hK K
      try simp only [Act.put, List.getElem_toArray, List.getElem_cons_zero, List.getElem_cons_succ, List.setIfInBounds_toArray, List.set_cons_zero, List.set_cons_succ]
      refine wpAnyH_ready (rs := [10]) (by kernel_rfl) (by simp) ?_
      refine AllReadyH.cons rfl (fun K hK => ?_) ?_
      ·
       go_simp
       refine hK.out _ _ ?_ (fun hHeld => ?_)
       ·
        (try dsimp only)
        exact mkS.out _ (((((Below.refl _ _).drew).alloc (by simp <;> omega) _).alloc (by simp <;> omega) _).alloc (by simp <;> omega) _)
       clear hK K
       try simp only [Act.put, List.getElem_toArray, List.getElem_cons_zero, List.getElem_cons_succ, List.setIfInBounds_toArray, List.set_cons_zero, List.set_cons_succ]
       refine wpAnyH_ready (rs := [11]) (by kernel_rfl) (by simp) ?_
       refine AllReadyH.cons rfl (fun K hK => ?_) ?_
       ·
        go_simp
        refine hK.out _ _ ?_ (fun hHeld => ?_)
        ·
         (try dsimp only)
         exact mkS.out _ (((((Below.refl _ _).drew).alloc (by simp <;> omega) _).alloc (by simp <;> omega) _).alloc (by simp <;> omega) _)
        clear hK K
        try simp only [Act.put, List.getElem_toArray, List.getElem_cons_zero, List.getElem_cons_succ, List.setIfInBounds_toArray, List.set_cons_zero, List.set_cons_succ]
        refine wpAnyH_done (by kernel_rfl) ?_ _
        have hX := (((OwnB.refl wo1).new #[.int .i64 kc, .slice Ac nc cc] 24 (g := wo1.heap.size) (hg := by simp)).new #[.int .i64 ka, .slice Aa na ca] 24 (g := wo1.heap.size + 1) (hg := by simp)).new #[.int .i64 kb, .slice Ab nb cb] 24 (g := wo1.heap.size + 2) (hg := by simp)
        generalize hx_ : World.alloc (World.alloc (World.alloc _ _) _) _ = wz
        rw [hx_] at hX
        clear hx_ hHeld
        repeat' ((fail_if_success at_builtin); (first | go_skip | go_guarded | go_step))
        go_meet
        case rel => first | exact ⟨_, wo1.heap.size + 1, wo1.heap.size + 2, wo1.heap.size, rfl, rfl, rfl, rfl, (hX.all 1 _ _ rfl).2, (hX.all 0 _ _ rfl).2, (hX.all 2 _ _ rfl).2, hX.below⟩ | exact ⟨_, wo1.heap.size + 1, wo1.heap.size + 2, wo1.heap.size, rfl, rfl, rfl, rfl, (hX.drew.all 1 _ _ rfl).2, (hX.drew.all 0 _ _ rfl).2, (hX.drew.all 2 _ _ rfl).2, hX.drew.below⟩
       exact AllReadyH.nil
      exact AllReadyH.nil
     exact AllReadyH.nil
    exact AllReadyH.nil
   refine AllReadyH.cons rfl (fun K hK => ?_) ?_
   ·
    go_simp
    refine hK.out _ _ ?_ (fun hHeld => ?_)
    ·
     (try dsimp only)
     exact mkS.out _ ((((Below.refl _ _).drew).alloc (by simp <;> omega) _).alloc (by simp <;> omega) _)
    clear hK K
    try simp only [Act.put, List.getElem_toArray, List.getElem_cons_zero, List.getElem_cons_succ, List.setIfInBounds_toArray, List.set_cons_zero, List.set_cons_succ]
    refine wpAnyH_ready (rs := [6]) (by kernel_rfl) (by simp) ?_
    refine AllReadyH.cons rfl (fun K hK => ?_) ?_
    ·
     go_simp
     refine hK.out _ _ ?_ (fun hHeld => ?_)
     ·
      (try dsimp only)
      exact mkS.out _ (((((Below.refl _ _).drew).alloc (by simp <;> omega) _).alloc (by simp <;> omega) _).alloc (by simp <;> omega) _)
     clear hK K
     try simp only [Act.put, List.getElem_toArray, List.getElem_cons_zero, List.getElem_cons_succ, List.setIfInBounds_toArray, List.set_cons_zero, List.set_cons_succ]
     refine wpAnyH_ready (rs := [9]) (by kernel_rfl) (by simp) ?_
     refine AllReadyH.cons rfl (fun K hK => ?_) ?_
     ·
      go_simp
      refine hK.out _ _ ?_ (fun hHeld => ?_)
      ·
       (try dsimp only)
       exact mkS.out _ (((((Below.refl _ _).drew).alloc (by simp <;> omega) _).alloc (by simp <;> omega) _).alloc (by simp <;> omega) _)
      clear hK K
      try simp only [Act.put, List.getElem_toArray, List.getElem_cons_zero, List.getElem_cons_succ, List.setIfInBounds_toArray, List.set_cons_zero, List.set_cons_succ]
      refine wpAnyH_ready (rs := [10]) (by kernel_rfl) (by simp) ?_
      refine AllReadyH.cons rfl (fun K hK => ?_) ?_
      ·
       go_simp
       refine hK.out _ _ ?_ (fun hHeld => ?_)
       ·
        (try dsimp only)
        exact mkS.out _ (((((Below.refl _ _).drew).alloc (by simp <;> omega) _).alloc (by simp <;> omega) _).alloc (by simp <;> omega) _)
       clear hK K
       try simp only [Act.put, List.getElem_toArray, List.getElem_cons_zero, List.getElem_cons_succ, List.setIfInBounds_toArray, List.set_cons_zero, List.set_cons_succ]
       refine wpAnyH_ready (rs := [11]) (by kernel_rfl) (by simp) ?_
       refine AllReadyH.cons rfl (fun K hK => ?_) ?_
       ·
        go_simp
        refine hK.out _ _ ?_ (fun hHeld => ?_)
        ·
         (try dsimp only)
         exact mkS.out _ (((((Below.refl _ _).drew).alloc (by simp <;> omega) _).alloc (by simp <;> omega) _).alloc (by simp <;> omega) _)
        clear hK K
        try simp only [Act.put, List.getElem_toArray, List.getElem_cons_zero, List.getElem_cons_succ, List.setIfInBounds_toArray, List.set_cons_zero, List.set_cons_succ]
        refine wpAnyH_done (by kernel_rfl) ?_ _
        have hX := (((OwnB.refl wo1).new #[.int .i64 kc, .slice Ac nc cc] 24 (g := wo1.heap.size) (hg := by simp)).new #[.int .i64 kb, .slice Ab nb cb] 24 (g := wo1.heap.size + 1) (hg := by simp)).new #[.int .i64 ka, .slice Aa na ca] 24 (g := wo1.heap.size + 2) (hg := by simp)
        generalize hx_ : World.alloc (World.alloc (World.alloc _ _) _) _ = wz
        rw [hx_] at hX
        clear hx_ hHeld
        repeat' ((fail_if_success at_builtin); (first | go_skip | go_guarded | go_step))
        go_meet
        case rel => first | exact ⟨_, wo1.heap.size + 2, wo1.heap.size + 1, wo1.heap.size, rfl, rfl, rfl, rfl, (hX.all 0 _ _ rfl).2, (hX.all 1 _ _ rfl).2, (hX.all 2 _ _ rfl).2, hX.below⟩ | exact ⟨_, wo1.heap.size + 2, wo1.heap.size + 1, wo1.heap.size, rfl, rfl, rfl, rfl, (hX.drew.all 0 _ _ rfl).2, (hX.drew.all 1 _ _ rfl).2, (hX.drew.all 2 _ _ rfl).2, hX.drew.below⟩
       exact AllReadyH.nil
      exact AllReadyH.nil
     exact AllReadyH.nil
    exact AllReadyH.nil
   exact AllReadyH.nil
  exact AllReadyH.nil
 case rest => as_aux_lemma =>
  obtain ⟨wx1, pa, pb, pc, hwq, rfl, rfl, rfl, hCa, hCb, hCc, hbx⟩ := hcut
  subst hwq
  have hV0 : CellsAt wx1 (w.heap.size + 1) [.int .i64 k, .bool b9, .int .i64 i, .string s, .slice A n c, .slice A2 n2 c2] := ((hO1.all 0 _ _ rfl).2).kept hbx
  have hb0 := hO1.below.trans (hbx.mono hO1.below.size)
  clear c0_0 c0_1 c0_2 c0_3 c0_4 c0_5 cf0 c1_0 c1_1 c1_2 c1_3 c1_4 c1_5 cf1
  have hR1 : RdB w wx1 [(pa, [.int .i64 ka, .slice Aa na ca]), (pb, [.int .i64 kb, .slice Ab nb cb]), (pc, [.int .i64 kc, .slice Ac nc cc]), (w.heap.size + 1, [.int .i64 k, .bool b9, .int .i64 i, .string s, .slice A n c, .slice A2 n2 c2])] := ((((RdB.of (OwnB.of hb0)).push hV0).push hCc).push hCb).push hCa
  have c0_0 := hR1.c 0 0
  have c0_1 := hR1.c 0 1
  have cf0 := hR1.fr 0
  have c1_0 := hR1.c 1 0
  have c1_1 := hR1.c 1 1
  have cf1 := hR1.fr 1
  have c2_0 := hR1.c 2 0
  have c2_1 := hR1.c 2 1
  have cf2 := hR1.fr 2
  have c3_0 := hR1.c 3 0
  have c3_1 := hR1.c 3 1
  have c3_2 := hR1.c 3 2
  have c3_3 := hR1.c 3 3
  have c3_4 := hR1.c 3 4
  have c3_5 := hR1.c 3 5
  have cf3 := hR1.fr 3
  clear hCa hCb hCc hV0 hbx hO1
  have h1 := Lib.hid (RTf.at_ ha hR1.below)
  repeat' ((fail_if_success at_builtin); (first | go_skip | go_guarded | go_step))
  refine (rvalid_any ga ta ka Aa na ca _ h1.out).mono ?_
  rintro e ya ⟨rfl, hbya⟩
  dsimp only
  clear h1
  have hR2 : RdB w ya [(pa, [.int .i64 ka, .slice Aa na ca]), (pb, [.int .i64 kb, .slice Ab nb cb]), (pc, [.int .i64 kc, .slice Ac nc cc]), (w.heap.size + 1, [.int .i64 k, .bool b9, .int .i64 i, .string s, .slice A n c, .slice A2 n2 c2])] := hR1.kept hbya
  clear c0_0 c0_1 cf0 c1_0 c1_1 cf1 c2_0 c2_1 cf2 c3_0 c3_1 c3_2 c3_3 c3_4 c3_5 cf3 hR1
  have c0_0 := hR2.c 0 0
  have c0_1 := hR2.c 0 1
  have cf0 := hR2.fr 0
  have c1_0 := hR2.c 1 0
  have c1_1 := hR2.c 1 1
  have cf1 := hR2.fr 1
  have c2_0 := hR2.c 2 0
  have c2_1 := hR2.c 2 1
  have cf2 := hR2.fr 2
  have c3_0 := hR2.c 3 0
  have c3_1 := hR2.c 3 1
  have c3_2 := hR2.c 3 2
  have c3_3 := hR2.c 3 3
  have c3_4 := hR2.c 3 4
  have c3_5 := hR2.c 3 5
  have cf3 := hR2.fr 3
  cases hka : okV ta with
  | none =>
   have hz := okV_none hka
   have hz2 : (validT ta == 0) = false := by simpa using hz
   have hz3 : (validT ta != 0) = true := by simpa using hz
   clear hz hka
   generalize validT ta = vt at *
   repeat' ((fail_if_success at_builtin); (first | go_skip | go_guarded | go_step))
   refine (awake_any _).mono ?_
   rintro e w9 ⟨rfl, hb9⟩
   dsimp only
   have hb := hR2.below.trans (hb9.mono hR2.below.size)
   repeat' ((fail_if_success at_builtin); (first | go_skip | go_guarded | go_step))
   go_ret
   exact ⟨rfl, hb⟩
  | some va =>
   obtain ⟨hz, hoa, hda, rfl⟩ := okV_some hka
   rw [hz]
   clear hz hka
   have h1 := Lib.hid (RTf.at_ hb hR2.below)
   repeat' ((fail_if_success at_builtin); (first | go_skip | go_guarded | go_step))
   refine (rvalid_any gb tb kb Ab nb cb _ h1.out).mono ?_
   rintro e yb ⟨rfl, hbyb⟩
   dsimp only
   clear h1
   have hR3 : RdB w yb [(pa, [.int .i64 ka, .slice Aa na ca]), (pb, [.int .i64 kb, .slice Ab nb cb]), (pc, [.int .i64 kc, .slice Ac nc cc]), (w.heap.size + 1, [.int .i64 k, .bool b9, .int .i64 i, .string s, .slice A n c, .slice A2 n2 c2])] := hR2.kept hbyb
   clear c0_0 c0_1 cf0 c1_0 c1_1 cf1 c2_0 c2_1 cf2 c3_0 c3_1 c3_2 c3_3 c3_4 c3_5 cf3 hR2
   have c0_0 := hR3.c 0 0
   have c0_1 := hR3.c 0 1
   have cf0 := hR3.fr 0
   have c1_0 := hR3.c 1 0
   have c1_1 := hR3.c 1 1
   have cf1 := hR3.fr 1
   have c2_0 := hR3.c 2 0
   have c2_1 := hR3.c 2 1
   have cf2 := hR3.fr 2
   have c3_0 := hR3.c 3 0
   have c3_1 := hR3.c 3 1
   have c3_2 := hR3.c 3 2
   have c3_3 := hR3.c 3 3
   have c3_4 := hR3.c 3 4
   have c3_5 := hR3.c 3 5
   have cf3 := hR3.fr 3
   cases hkb : okV tb with
   | none =>
    have hz := okV_none hkb
    have hz2 : (validT tb == 0) = false := by simpa using hz
    have hz3 : (validT tb != 0) = true := by simpa using hz
    clear hz hkb
    generalize validT tb = vt at *
    repeat' ((fail_if_success at_builtin); (first | go_skip | go_guarded | go_step))
    refine (awake_any _).mono ?_
    rintro e w9 ⟨rfl, hb9⟩
    dsimp only
    have hb := hR3.below.trans (hb9.mono hR3.below.size)
    repeat' ((fail_if_success at_builtin); (first | go_skip | go_guarded | go_step))
    go_ret
    exact ⟨rfl, hb⟩
   | some vb =>
    obtain ⟨hz, hob, hdb, rfl⟩ := okV_some hkb
    rw [hz]
    clear hz hkb
    have h1 := Lib.hid (RTf.at_ hc hR3.below)
    repeat' ((fail_if_success at_builtin); (first | go_skip | go_guarded | go_step))
    refine (rvalid_any gc tc kc Ac nc cc _ h1.out).mono ?_
    rintro e yc ⟨rfl, hbyc⟩
    dsimp only
    clear h1
    have hR4 : RdB w yc [(pa, [.int .i64 ka, .slice Aa na ca]), (pb, [.int .i64 kb, .slice Ab nb cb]), (pc, [.int .i64 kc, .slice Ac nc cc]), (w.heap.size + 1, [.int .i64 k, .bool b9, .int .i64 i, .string s, .slice A n c, .slice A2 n2 c2])] := hR3.kept hbyc
    clear c0_0 c0_1 cf0 c1_0 c1_1 cf1 c2_0 c2_1 cf2 c3_0 c3_1 c3_2 c3_3 c3_4 c3_5 cf3 hR3
    have c0_0 := hR4.c 0 0
    have c0_1 := hR4.c 0 1
    have cf0 := hR4.fr 0
    have c1_0 := hR4.c 1 0
    have c1_1 := hR4.c 1 1
    have cf1 := hR4.fr 1
    have c2_0 := hR4.c 2 0
    have c2_1 := hR4.c 2 1
    have cf2 := hR4.fr 2
    have c3_0 := hR4.c 3 0
    have c3_1 := hR4.c 3 1
    have c3_2 := hR4.c 3 2
    have c3_3 := hR4.c 3 3
    have c3_4 := hR4.c 3 4
    have c3_5 := hR4.c 3 5
    have cf3 := hR4.fr 3
    cases hkc : okV tc with
    | none =>
     have hz := okV_none hkc
     have hz2 : (validT tc == 0) = false := by simpa using hz
     have hz3 : (validT tc != 0) = true := by simpa using hz
     clear hz hkc
     generalize validT tc = vt at *
     repeat' ((fail_if_success at_builtin); (first | go_skip | go_guarded | go_step))
     refine (awake_any _).mono ?_
     rintro e w9 ⟨rfl, hb9⟩
     dsimp only
     have hb := hR4.below.trans (hb9.mono hR4.below.size)
     repeat' ((fail_if_success at_builtin); (first | go_skip | go_guarded | go_step))
     go_ret
     exact ⟨rfl, hb⟩
    | some vc =>
     obtain ⟨hz, hoc, hdc, rfl⟩ := okV_some hkc
     rw [hz]
     clear hz hkc
     have hb3 := hR4.below
     have ra := RTf.valid (RTf.at_ ha hb3)
     replace ra := Lib.hid ra
     have rb := RTf.valid (RTf.at_ hb hb3)
     replace rb := Lib.hid rb
     have rc := RTf.valid (RTf.at_ hc hb3)
     replace rc := Lib.hid rc
     have rv := Lib.hid (RVl.at_ hv hb3)
     clear ha hb hc hv
     have bJ : boundS VT.join 0 (ofV va) (ofV vb) = VT.join va vb := bound_of hoa hob hda hdb
     have bM : boundS VT.meet 7 (ofV va) (ofV vb) = VT.meet va vb := bound_of hoa hob hda hdb
     replace bJ := Lib.hid bJ
     replace bM := Lib.hid bM
     repeat' ((fail_if_success at_builtin); (first | go_skip | go_guarded | go_step))
     go_cut [8, 9] (fun u8 u9 wx => ∃ (wq : World) (pj pm : Nat) (Aj : Option Addr) (nj cj : Nat) (Am : Option Addr) (nm cm : Nat), wq = wx ∧ u8 = .pointer (some ⟨pj, 0, none⟩) ∧ u9 = .pointer (some ⟨pm, 0, none⟩) ∧ CellsAt wx pj [.int .i64 ((VT.join va vb).kind : Int), .slice Aj nj cj] ∧ CellsAt wx pm [.int .i64 ((VT.meet va vb).kind : Int), .slice Am nm cm] ∧ RVB wx wx.heap.size (VT.join va vb) [.int .i64 ((VT.join va vb).kind : Int), .slice Aj nj cj] ∧ RVB wx wx.heap.size (VT.meet va vb) [.int .i64 ((VT.meet va vb).kind : Int), .slice Am nm cm] ∧ Below yc.heap.size yc wx)
     case first => as_aux_lemma =>
      have mkS : ∀ v1 : World, Below yc.heap.size yc v1 → (Below yc.heap.size yc v1 ∧ v1.cell? ⟨pa, 0, none⟩ = some (.int .i64 ka) ∧ v1.cell? ⟨pa, 1, none⟩ = some (.slice Aa na ca) ∧ v1.cell? ⟨pb, 0, none⟩ = some (.int .i64 kb) ∧ v1.cell? ⟨pb, 1, none⟩ = some (.slice Ab nb cb)) := fun v1 h => ⟨h, (hR4.kept h).c 0 0, (hR4.kept h).c 0 1, (hR4.kept h).c 1 0, (hR4.kept h).c 1 1⟩
      have hS1 : (Below yc.heap.size yc yc.drew ∧ yc.drew.cell? ⟨pa, 0, none⟩ = some (.int .i64 ka) ∧ yc.drew.cell? ⟨pa, 1, none⟩ = some (.slice Aa na ca) ∧ yc.drew.cell? ⟨pb, 0, none⟩ = some (.int .i64 kb) ∧ yc.drew.cell? ⟨pb, 1, none⟩ = some (.slice Ab nb cb)) := mkS _ ((Below.refl _ _).drew)
      replace mkS := Lib.hid mkS
      clear c0_0 c0_1 cf0 c1_0 c1_1 cf1 c2_0 c2_1 cf2 c3_0 c3_1 c3_2 c3_3 c3_4 c3_5 cf3
      refine wp_region_held_drew (S := fun w' => Below yc.heap.size yc w' ∧ w'.cell? ⟨pa, 0, none⟩ = some (.int .i64 ka) ∧ w'.cell? ⟨pa, 1, none⟩ = some (.slice Aa na ca) ∧ w'.cell? ⟨pb, 0, none⟩ = some (.int .i64 kb) ∧ w'.cell? ⟨pb, 1, none⟩ = some (.slice Ab nb cb)) (by kernel_rfl) ?_ (fun hHeld => ?_)
      ·
       (try dsimp only)
       exact hS1
      generalize hwd_ : World.drew yc = d0 at hHeld ⊢
      clear hwd_ hS1
      have hB0 := hHeld.1
      have hdd := hB0.size
      refine tkY 0 (v := ?v51) rfl (.inl ⟨by rfl, ?hy51⟩) ?hr51
      case hy51 => (intro w hSw; (try dsimp only at hSw); go_simp; try with_reducible rfl)
      simp only [Act.put, List.getElem_toArray, List.getElem_cons_zero, List.getElem_cons_succ, List.setIfInBounds_toArray, List.set_cons_zero, List.set_cons_succ]
      refine tkY 1 (v := ?v52) rfl (.inl ⟨by rfl, ?hy52⟩) ?hr52
      case hy52 => (intro w hSw; (try dsimp only at hSw); go_simp; try with_reducible rfl)
      simp only [Act.put, List.getElem_toArray, List.getElem_cons_zero, List.getElem_cons_succ, List.setIfInBounds_toArray, List.set_cons_zero, List.set_cons_succ]
      refine tkY 3 (v := ?v53) rfl (.inl ⟨by rfl, ?hy53⟩) ?hr53
      case hy53 => (intro w hSw; (try dsimp only at hSw); go_simp; try with_reducible rfl)
      simp only [Act.put, List.getElem_toArray, List.getElem_cons_zero, List.getElem_cons_succ, List.setIfInBounds_toArray, List.set_cons_zero, List.set_cons_succ]
      refine tkY 4 (v := ?v54) rfl (.inl ⟨by rfl, ?hy54⟩) ?hr54
      case hy54 => (intro w hSw; (try dsimp only at hSw); go_simp; try with_reducible rfl)
      simp only [Act.put, List.getElem_toArray, List.getElem_cons_zero, List.getElem_cons_succ, List.setIfInBounds_toArray, List.set_cons_zero, List.set_cons_succ]
      refine wpAnyH_ready (rs := [2, 6, 7]) (by kernel_rfl) (by simp) ?_
      refine AllReadyH.cons rfl (fun K hK => ?_) ?_
      ·
       go_simp
       go_at_call 21
       have CJ := tjoinB_any _ _ (ofV va) (ofV vb) ka Aa na ca kb Ab nb cb d0 yc.heap.size hB0.size (RV.ty (RVB.below ra.out hB0)) (RV.ty (RVB.below rb.out hB0))
       rw [bJ.out] at CJ
       refine CJ.mono ?_
       clear CJ
       rintro e v1 ⟨Aj, nj, cj, rfl, hNj, hbv1⟩
       dsimp only
       have hBv1 := hB0.trans (hbv1.mono hB0.size)
       have hsv1 := hbv1.size
       have hRj := hNj
       clear hNj
       refine hK.out _ _ ?_ (fun hHeld => ?_)
       ·
        (try dsimp only)
        exact mkS.out _ hBv1
       clear hK K
       try simp only [Act.put, List.getElem_toArray, List.getElem_cons_zero, List.getElem_cons_succ, List.setIfInBounds_toArray, List.set_cons_zero, List.set_cons_succ]
       refine wpAnyH_ready (rs := [5, 6, 7]) (by kernel_rfl) (by simp) ?_
       refine AllReadyH.cons rfl (fun K hK => ?_) ?_
       ·
        go_simp
        go_at_call 23
        have CJ := tmeetB_any _ _ (ofV va) (ofV vb) ka Aa na ca kb Ab nb cb v1 yc.heap.size hBv1.size (RV.ty (RVB.below ra.out hBv1)) (RV.ty (RVB.below rb.out hBv1))
        rw [bM.out] at CJ
        refine CJ.mono ?_
        clear CJ
        rintro e v2 ⟨Am, nm, cm, rfl, hNm, hbv2⟩
        dsimp only
        have hBv2 := hBv1.trans (hbv2.mono hBv1.size)
        have hsv2 := hbv2.size
        replace hRj := RV.at_ hRj (fun b h => by rcases h with h | h <;> omega) hbv2
        have hRm := hNm
        clear hNm
        refine hK.out _ _ ?_ (fun hHeld => ?_)
        ·
         (try dsimp only)
         exact mkS.out _ hBv2
        clear hK K
        try simp only [Act.put, List.getElem_toArray, List.getElem_cons_zero, List.getElem_cons_succ, List.setIfInBounds_toArray, List.set_cons_zero, List.set_cons_succ]
        refine wpAnyH_ready (rs := [6, 7]) (by kernel_rfl) (by simp) ?_
        refine AllReadyH.cons rfl (fun K hK => ?_) ?_
        ·
         go_simp
         generalize hx_ : World.alloc _ _ = v3
         have hC8 : CellsAt v3 v2.heap.size [.int .i64 0, .slice none 0 0] := by rw [← hx_]; exact CellsAt.new v2 #[.int .i64 0, .slice none 0 0] _
         have hbv3 : Below v2.heap.size v2 v3 := by rw [← hx_]; exact (Below.refl _ _).alloc (Nat.le_refl _) _
         have hzv3 : v2.heap.size < v3.heap.size := by rw [← hx_]; simp
         clear hx_
         have hBv3 := hBv2.trans (hbv3.mono hBv2.size)
         have hsv3 := hbv3.size
         replace hRj := RV.at_ hRj (fun b h => by rcases h with h | h <;> omega) hbv3
         replace hRm := RV.at_ hRm (fun b h => by rcases h with h | h <;> omega) hbv3
         refine hK.out _ _ ?_ (fun hHeld => ?_)
         ·
          (try dsimp only)
          exact mkS.out _ hBv3
         clear hK K
         try simp only [Act.put, List.getElem_toArray, List.getElem_cons_zero, List.getElem_cons_succ, List.setIfInBounds_toArray, List.set_cons_zero, List.set_cons_succ]
         refine wpAnyH_ready (rs := [7]) (by kernel_rfl) (by simp) ?_
         refine AllReadyH.cons rfl (fun K hK => ?_) ?_
         ·
          go_simp
          generalize hx_ : World.alloc _ _ = v4
          have hC9 : CellsAt v4 v3.heap.size [.int .i64 0, .slice none 0 0] := by rw [← hx_]; exact CellsAt.new v3 #[.int .i64 0, .slice none 0 0] _
          have hbv4 : Below v3.heap.size v3 v4 := by rw [← hx_]; exact (Below.refl _ _).alloc (Nat.le_refl _) _
          have hzv4 : v3.heap.size < v4.heap.size := by rw [← hx_]; simp
          clear hx_
          have hBv4 := hBv3.trans (hbv4.mono hBv3.size)
          have hsv4 := hbv4.size
          replace hC8 := hC8.kept hbv4
          replace hRj := RV.at_ hRj (fun b h => by rcases h with h | h <;> omega) hbv4
          replace hRm := RV.at_ hRm (fun b h => by rcases h with h | h <;> omega) hbv4
          refine hK.out _ _ ?_ (fun hHeld => ?_)
          ·
           (try dsimp only)
           exact mkS.out _ hBv4
          clear hK K
          try simp only [Act.put, List.getElem_toArray, List.getElem_cons_zero, List.getElem_cons_succ, List.setIfInBounds_toArray, List.set_cons_zero, List.set_cons_succ]
          refine wpAnyH_ready (rs := [8]) (by kernel_rfl) (by simp) ?_
          refine AllReadyH.cons rfl (fun K hK => ?_) ?_
          ·
           have k0 := hC8.cell 0 _ rfl
           have k1 := hC8.cell 1 _ rfl
           have kf := hC8.fr
           go_simp
           have hsz_ : ((v4.setCell ⟨v2.heap.size, 0, none⟩ (.int .i64 ((VT.join va vb).kind : Int))).setCell ⟨v2.heap.size, 1, none⟩ (.slice Aj nj cj)).heap.size = v4.heap.size := by simp [World.setCell]
           have hBn := (hBv4.setCell (p := ⟨v2.heap.size, 0, none⟩) (by show yc.heap.size ≤ v2.heap.size; omega) (.int .i64 ((VT.join va vb).kind : Int))).setCell (p := ⟨v2.heap.size, 1, none⟩) (by show yc.heap.size ≤ v2.heap.size; omega) (.slice Aj nj cj)
           replace hC9 := cells_back (b4 := v2.heap.size) (.int .i64 ((VT.join va vb).kind : Int)) (.slice Aj nj cj) hC9 (by omega)
           replace hC8 := (hC8.set 0 (.int .i64 ((VT.join va vb).kind : Int))).set 1 (.slice Aj nj cj)
           replace hRj := RV.set2 (g := v2.heap.size) (.int .i64 ((VT.join va vb).kind : Int)) (.slice Aj nj cj) (fun b h => by rcases h with h | h <;> omega) hRj
           replace hRm := RV.set2 (g := v2.heap.size) (.int .i64 ((VT.join va vb).kind : Int)) (.slice Aj nj cj) (fun b h => by rcases h with h | h <;> omega) hRm
           generalize hx_ : World.setCell (World.setCell _ _ _) _ _ = v5 at hsz_ hBn hC8 hC9 hRj hRm ⊢
           clear hx_ k0 k1 kf
           have hBv5 := hBn
           have hsv5 : v4.heap.size ≤ v5.heap.size := by rw [hsz_]; exact Nat.le_refl _
           clear hsz_ hBn
           refine hK.out _ _ ?_ (fun hHeld => ?_)
           ·
            (try dsimp only)
            exact mkS.out _ hBv5
           clear hK K
           try simp only [Act.put, List.getElem_toArray, List.getElem_cons_zero, List.getElem_cons_succ, List.setIfInBounds_toArray, List.set_cons_zero, List.set_cons_succ]
           refine wpAnyH_ready (rs := [9]) (by kernel_rfl) (by simp) ?_
           refine AllReadyH.cons rfl (fun K hK => ?_) ?_
           ·
            have k0 := hC9.cell 0 _ rfl
            have k1 := hC9.cell 1 _ rfl
            have kf := hC9.fr
            go_simp
            have hsz_ : ((v5.setCell ⟨v3.heap.size, 0, none⟩ (.int .i64 ((VT.meet va vb).kind : Int))).setCell ⟨v3.heap.size, 1, none⟩ (.slice Am nm cm)).heap.size = v5.heap.size := by simp [World.setCell]
            have hBn := (hBv5.setCell (p := ⟨v3.heap.size, 0, none⟩) (by show yc.heap.size ≤ v3.heap.size; omega) (.int .i64 ((VT.meet va vb).kind : Int))).setCell (p := ⟨v3.heap.size, 1, none⟩) (by show yc.heap.size ≤ v3.heap.size; omega) (.slice Am nm cm)
            replace hC8 := cells_back (b4 := v3.heap.size) (.int .i64 ((VT.meet va vb).kind : Int)) (.slice Am nm cm) hC8 (by omega)
            replace hC9 := (hC9.set 0 (.int .i64 ((VT.meet va vb).kind : Int))).set 1 (.slice Am nm cm)
            replace hRj := RV.set2 (g := v3.heap.size) (.int .i64 ((VT.meet va vb).kind : Int)) (.slice Am nm cm) (fun b h => by rcases h with h | h <;> omega) hRj
            replace hRm := RV.set2 (g := v3.heap.size) (.int .i64 ((VT.meet va vb).kind : Int)) (.slice Am nm cm) (fun b h => by rcases h with h | h <;> omega) hRm
            generalize hx_ : World.setCell (World.setCell _ _ _) _ _ = v6 at hsz_ hBn hC8 hC9 hRj hRm ⊢
            clear hx_ k0 k1 kf
            have hBv6 := hBn
            have hsv6 : v5.heap.size ≤ v6.heap.size := by rw [hsz_]; exact Nat.le_refl _
            clear hsz_ hBn
            refine hK.out _ _ ?_ (fun hHeld => ?_)
            ·
             (try dsimp only)
             exact mkS.out _ hBv6
            clear hK K
            try simp only [Act.put, List.getElem_toArray, List.getElem_cons_zero, List.getElem_cons_succ, List.setIfInBounds_toArray, List.set_cons_zero, List.set_cons_succ]
            refine wpAnyH_done (by kernel_rfl) ?_ _
            clear hHeld
            repeat' ((fail_if_success at_builtin); (first | go_skip | go_guarded | go_step))
            go_meet
            case rel => exact ⟨_, _, _, _, _, _, _, _, _, rfl, rfl, rfl, hC8, hC9, hRj.imp (fun b h => by rcases h with h | h <;> omega), hRm.imp (fun b h => by rcases h with h | h <;> omega), hBv6⟩
           exact AllReadyH.nil
          exact AllReadyH.nil
         exact AllReadyH.nil
        refine AllReadyH.cons rfl (fun K hK => ?_) ?_
        ·
         go_simp
         generalize hx_ : World.alloc _ _ = v7
         have hC9 : CellsAt v7 v2.heap.size [.int .i64 0, .slice none 0 0] := by rw [← hx_]; exact CellsAt.new v2 #[.int .i64 0, .slice none 0 0] _
         have hbv7 : Below v2.heap.size v2 v7 := by rw [← hx_]; exact (Below.refl _ _).alloc (Nat.le_refl _) _
         have hzv7 : v2.heap.size < v7.heap.size := by rw [← hx_]; simp
         clear hx_
         have hBv7 := hBv2.trans (hbv7.mono hBv2.size)
         have hsv7 := hbv7.size
         replace hRj := RV.at_ hRj (fun b h => by rcases h with h | h <;> omega) hbv7
         replace hRm := RV.at_ hRm (fun b h => by rcases h with h | h <;> omega) hbv7
         refine hK.out _ _ ?_ (fun hHeld => ?_)
         ·
          (try dsimp only)
          exact mkS.out _ hBv7
         clear hK K
         try simp only [Act.put, List.getElem_toArray, List.getElem_cons_zero, List.getElem_cons_succ, List.setIfInBounds_toArray, List.set_cons_zero, List.set_cons_succ]
         refine wpAnyH_ready (rs := [6]) (by kernel_rfl) (by simp) ?_
         refine AllReadyH.cons rfl (fun K hK => ?_) ?_
         ·
          go_simp
          generalize hx_ : World.alloc _ _ = v8
          have hC8 : CellsAt v8 v7.heap.size [.int .i64 0, .slice none 0 0] := by rw [← hx_]; exact CellsAt.new v7 #[.int .i64 0, .slice none 0 0] _
          have hbv8 : Below v7.heap.size v7 v8 := by rw [← hx_]; exact (Below.refl _ _).alloc (Nat.le_refl _) _
          have hzv8 : v7.heap.size < v8.heap.size := by rw [← hx_]; simp
          clear hx_
          have hBv8 := hBv7.trans (hbv8.mono hBv7.size)
          have hsv8 := hbv8.size
          replace hC9 := hC9.kept hbv8
          replace hRj := RV.at_ hRj (fun b h => by rcases h with h | h <;> omega) hbv8
          replace hRm := RV.at_ hRm (fun b h => by rcases h with h | h <;> omega) hbv8
          refine hK.out _ _ ?_ (fun hHeld => ?_)
          ·
           (try dsimp only)
           exact mkS.out _ hBv8
          clear hK K
          try simp only [Act.put, List.getElem_toArray, List.getElem_cons_zero, List.getElem_cons_succ, List.setIfInBounds_toArray, List.set_cons_zero, List.set_cons_succ]
          refine wpAnyH_ready (rs := [8]) (by kernel_rfl) (by simp) ?_
          refine AllReadyH.cons rfl (fun K hK => ?_) ?_
          ·
           have k0 := hC8.cell 0 _ rfl
           have k1 := hC8.cell 1 _ rfl
           have kf := hC8.fr
           go_simp
           have hsz_ : ((v8.setCell ⟨v7.heap.size, 0, none⟩ (.int .i64 ((VT.join va vb).kind : Int))).setCell ⟨v7.heap.size, 1, none⟩ (.slice Aj nj cj)).heap.size = v8.heap.size := by simp [World.setCell]
           have hBn := (hBv8.setCell (p := ⟨v7.heap.size, 0, none⟩) (by show yc.heap.size ≤ v7.heap.size; omega) (.int .i64 ((VT.join va vb).kind : Int))).setCell (p := ⟨v7.heap.size, 1, none⟩) (by show yc.heap.size ≤ v7.heap.size; omega) (.slice Aj nj cj)
           replace hC9 := cells_back (b4 := v7.heap.size) (.int .i64 ((VT.join va vb).kind : Int)) (.slice Aj nj cj) hC9 (by omega)
           replace hC8 := (hC8.set 0 (.int .i64 ((VT.join va vb).kind : Int))).set 1 (.slice Aj nj cj)
           replace hRj := RV.set2 (g := v7.heap.size) (.int .i64 ((VT.join va vb).kind : Int)) (.slice Aj nj cj) (fun b h => by rcases h with h | h <;> omega) hRj
           replace hRm := RV.set2 (g := v7.heap.size) (.int .i64 ((VT.join va vb).kind : Int)) (.slice Aj nj cj) (fun b h => by rcases h with h | h <;> omega) hRm
           generalize hx_ : World.setCell (World.setCell _ _ _) _ _ = v9 at hsz_ hBn hC8 hC9 hRj hRm ⊢
           clear hx_ k0 k1 kf
           have hBv9 := hBn
           have hsv9 : v8.heap.size ≤ v9.heap.size := by rw [hsz_]; exact Nat.le_refl _
           clear hsz_ hBn
           refine hK.out _ _ ?_ (fun hHeld => ?_)
           ·
            (try dsimp only)
            exact mkS.out _ hBv9
           clear hK K
           try simp only [Act.put, List.getElem_toArray, List.getElem_cons_zero, List.getElem_cons_succ, List.setIfInBounds_toArray, List.set_cons_zero, List.set_cons_succ]
           refine wpAnyH_ready (rs := [9]) (by kernel_rfl) (by simp) ?_
           refine AllReadyH.cons rfl (fun K hK => ?_) ?_
           ·
            have k0 := hC9.cell 0 _ rfl
            have k1 := hC9.cell 1 _ rfl
            have kf := hC9.fr
            go_simp
            have hsz_ : ((v9.setCell ⟨v2.heap.size, 0, none⟩ (.int .i64 ((VT.meet va vb).kind : Int))).setCell ⟨v2.heap.size, 1, none⟩ (.slice Am nm cm)).heap.size = v9.heap.size := by simp [World.setCell]
            have hBn := (hBv9.setCell (p := ⟨v2.heap.size, 0, none⟩) (by show yc.heap.size ≤ v2.heap.size; omega) (.int .i64 ((VT.meet va vb).kind : Int))).setCell (p := ⟨v2.heap.size, 1, none⟩) (by show yc.heap.size ≤ v2.heap.size; omega) (.slice Am nm cm)
            replace hC8 := cells_back (b4 := v2.heap.size) (.int .i64 ((VT.meet va vb).kind : Int)) (.slice Am nm cm) hC8 (by omega)
            replace hC9 := (hC9.set 0 (.int .i64 ((VT.meet va vb).kind : Int))).set 1 (.slice Am nm cm)
            replace hRj := RV.set2 (g := v2.heap.size) (.int .i64 ((VT.meet va vb).kind : Int)) (.slice Am nm cm) (fun b h => by rcases h with h | h <;> omega) hRj
            replace hRm := RV.set2 (g := v2.heap.size) (.int .i64 ((VT.meet va vb).kind : Int)) (.slice Am nm cm) (fun b h => by rcases h with h | h <;> omega) hRm
            generalize hx_ : World.setCell (World.setCell _ _ _) _ _ = v10 at hsz_ hBn hC8 hC9 hRj hRm ⊢
            clear hx_ k0 k1 kf
            have hBv10 := hBn
            have hsv10 : v9.heap.size ≤ v10.heap.size := by rw [hsz_]; exact Nat.le_refl _
            clear hsz_ hBn
            refine hK.out _ _ ?_ (fun hHeld => ?_)
            ·
             (try dsimp only)
             exact mkS.out _ hBv10
            clear hK K
            try simp only [Act.put, List.getElem_toArray, List.getElem_cons_zero, List.getElem_cons_succ, List.setIfInBounds_toArray, List.set_cons_zero, List.set_cons_succ]
            refine wpAnyH_done (by kernel_rfl) ?_ _
            clear hHeld
            repeat' ((fail_if_success at_builtin); (first | go_skip | go_guarded | go_step))
            go_meet
            case rel => exact ⟨_, _, _, _, _, _, _, _, _, rfl, rfl, rfl, hC8, hC9, hRj.imp (fun b h => by rcases h with h | h <;> omega), hRm.imp (fun b h => by rcases h with h | h <;> omega), hBv10⟩
           exact AllReadyH.nil
          exact AllReadyH.nil
         exact AllReadyH.nil
        exact AllReadyH.nil
       refine AllReadyH.cons rfl (fun K hK => ?_) ?_
       ·
        go_simp
        generalize hx_ : World.alloc _ _ = v11
        have hC8 : CellsAt v11 v1.heap.size [.int .i64 0, .slice none 0 0] := by rw [← hx_]; exact CellsAt.new v1 #[.int .i64 0, .slice none 0 0] _
        have hbv11 : Below v1.heap.size v1 v11 := by rw [← hx_]; exact (Below.refl _ _).alloc (Nat.le_refl _) _
        have hzv11 : v1.heap.size < v11.heap.size := by rw [← hx_]; simp
        clear hx_
        have hBv11 := hBv1.trans (hbv11.mono hBv1.size)
        have hsv11 := hbv11.size
        replace hRj := RV.at_ hRj (fun b h => by rcases h with h | h <;> omega) hbv11
        refine hK.out _ _ ?_ (fun hHeld => ?_)
        ·
         (try dsimp only)
         exact mkS.out _ hBv11
        clear hK K
        try simp only [Act.put, List.getElem_toArray, List.getElem_cons_zero, List.getElem_cons_succ, List.setIfInBounds_toArray, List.set_cons_zero, List.set_cons_succ]
        refine wpAnyH_ready (rs := [5, 7]) (by kernel_rfl) (by simp) ?_
        refine AllReadyH.cons rfl (fun K hK => ?_) ?_
        ·
         go_simp
         go_at_call 23
         have CJ := tmeetB_any _ _ (ofV va) (ofV vb) ka Aa na ca kb Ab nb cb v11 yc.heap.size hBv11.size (RV.ty (RVB.below ra.out hBv11)) (RV.ty (RVB.below rb.out hBv11))
         rw [bM.out] at CJ
         refine CJ.mono ?_
         clear CJ
         rintro e v12 ⟨Am, nm, cm, rfl, hNm, hbv12⟩
         dsimp only
         have hBv12 := hBv11.trans (hbv12.mono hBv11.size)
         have hsv12 := hbv12.size
         replace hC8 := hC8.kept hbv12
         replace hRj := RV.at_ hRj (fun b h => by rcases h with h | h <;> omega) hbv12
         have hRm := hNm
         clear hNm
         refine hK.out _ _ ?_ (fun hHeld => ?_)
         ·
          (try dsimp only)
          exact mkS.out _ hBv12
         clear hK K
         try simp only [Act.put, List.getElem_toArray, List.getElem_cons_zero, List.getElem_cons_succ, List.setIfInBounds_toArray, List.set_cons_zero, List.set_cons_succ]
         refine wpAnyH_ready (rs := [7]) (by kernel_rfl) (by simp) ?_
         refine AllReadyH.cons rfl (fun K hK => ?_) ?_
         ·
          go_simp
          generalize hx_ : World.alloc _ _ = v13
          have hC9 : CellsAt v13 v12.heap.size [.int .i64 0, .slice none 0 0] := by rw [← hx_]; exact CellsAt.new v12 #[.int .i64 0, .slice none 0 0] _
          have hbv13 : Below v12.heap.size v12 v13 := by rw [← hx_]; exact (Below.refl _ _).alloc (Nat.le_refl _) _
          have hzv13 : v12.heap.size < v13.heap.size := by rw [← hx_]; simp
          clear hx_
          have hBv13 := hBv12.trans (hbv13.mono hBv12.size)
          have hsv13 := hbv13.size
          replace hC8 := hC8.kept hbv13
          replace hRj := RV.at_ hRj (fun b h => by rcases h with h | h <;> omega) hbv13
          replace hRm := RV.at_ hRm (fun b h => by rcases h with h | h <;> omega) hbv13
          refine hK.out _ _ ?_ (fun hHeld => ?_)
          ·
           (try dsimp only)
           exact mkS.out _ hBv13
          clear hK K
          try simp only [Act.put, List.getElem_toArray, List.getElem_cons_zero, List.getElem_cons_succ, List.setIfInBounds_toArray, List.set_cons_zero, List.set_cons_succ]
          refine wpAnyH_ready (rs := [8]) (by kernel_rfl) (by simp) ?_
          refine AllReadyH.cons rfl (fun K hK => ?_) ?_
          ·
           have k0 := hC8.cell 0 _ rfl
           have k1 := hC8.cell 1 _ rfl
           have kf := hC8.fr
           go_simp
           have hsz_ : ((v13.setCell ⟨v1.heap.size, 0, none⟩ (.int .i64 ((VT.join va vb).kind : Int))).setCell ⟨v1.heap.size, 1, none⟩ (.slice Aj nj cj)).heap.size = v13.heap.size := by simp [World.setCell]
           have hBn := (hBv13.setCell (p := ⟨v1.heap.size, 0, none⟩) (by show yc.heap.size ≤ v1.heap.size; omega) (.int .i64 ((VT.join va vb).kind : Int))).setCell (p := ⟨v1.heap.size, 1, none⟩) (by show yc.heap.size ≤ v1.heap.size; omega) (.slice Aj nj cj)
           replace hC9 := cells_back (b4 := v1.heap.size) (.int .i64 ((VT.join va vb).kind : Int)) (.slice Aj nj cj) hC9 (by omega)
           replace hC8 := (hC8.set 0 (.int .i64 ((VT.join va vb).kind : Int))).set 1 (.slice Aj nj cj)
           replace hRj := RV.set2 (g := v1.heap.size) (.int .i64 ((VT.join va vb).kind : Int)) (.slice Aj nj cj) (fun b h => by rcases h with h | h <;> omega) hRj
           replace hRm := RV.set2 (g := v1.heap.size) (.int .i64 ((VT.join va vb).kind : Int)) (.slice Aj nj cj) (fun b h => by rcases h with h | h <;> omega) hRm
           generalize hx_ : World.setCell (World.setCell _ _ _) _ _ = v14 at hsz_ hBn hC8 hC9 hRj hRm ⊢
           clear hx_ k0 k1 kf
           have hBv14 := hBn
           have hsv14 : v13.heap.size ≤ v14.heap.size := by rw [hsz_]; exact Nat.le_refl _
           clear hsz_ hBn
           refine hK.out _ _ ?_ (fun hHeld => ?_)
           ·
            (try dsimp only)
            exact mkS.out _ hBv14
           clear hK K
           try simp only [Act.put, List.getElem_toArray, List.getElem_cons_zero, List.getElem_cons_succ, List.setIfInBounds_toArray, List.set_cons_zero, List.set_cons_succ]
           refine wpAnyH_ready (rs := [9]) (by kernel_rfl) (by simp) ?_
           refine AllReadyH.cons rfl (fun K hK => ?_) ?_
           ·
            have k0 := hC9.cell 0 _ rfl
            have k1 := hC9.cell 1 _ rfl
            have kf := hC9.fr
            go_simp
            have hsz_ : ((v14.setCell ⟨v12.heap.size, 0, none⟩ (.int .i64 ((VT.meet va vb).kind : Int))).setCell ⟨v12.heap.size, 1, none⟩ (.slice Am nm cm)).heap.size = v14.heap.size := by simp [World.setCell]
            have hBn := (hBv14.setCell (p := ⟨v12.heap.size, 0, none⟩) (by show yc.heap.size ≤ v12.heap.size; omega) (.int .i64 ((VT.meet va vb).kind : Int))).setCell (p := ⟨v12.heap.size, 1, none⟩) (by show yc.heap.size ≤ v12.heap.size; omega) (.slice Am nm cm)
            replace hC8 := cells_back (b4 := v12.heap.size) (.int .i64 ((VT.meet va vb).kind : Int)) (.slice Am nm cm) hC8 (by omega)
            replace hC9 := (hC9.set 0 (.int .i64 ((VT.meet va vb).kind : Int))).set 1 (.slice Am nm cm)
            replace hRj := RV.set2 (g := v12.heap.size) (.int .i64 ((VT.meet va vb).kind : Int)) (.slice Am nm cm) (fun b h => by rcases h with h | h <;> omega) hRj
            replace hRm := RV.set2 (g := v12.heap.size) (.int .i64 ((VT.meet va vb).kind : Int)) (.slice Am nm cm) (fun b h => by rcases h with h | h <;> omega) hRm
            generalize hx_ : World.setCell (World.setCell _ _ _) _ _ = v15 at hsz_ hBn hC8 hC9 hRj hRm ⊢
            clear hx_ k0 k1 kf
            have hBv15 := hBn
            have hsv15 : v14.heap.size ≤ v15.heap.size := by rw [hsz_]; exact Nat.le_refl _
            clear hsz_ hBn
            refine hK.out _ _ ?_ (fun hHeld => ?_)
            ·
             (try dsimp only)
             exact mkS.out _ hBv15
            clear hK K
            try simp only [Act.put, List.getElem_toArray, List.getElem_cons_zero, List.getElem_cons_succ, List.setIfInBounds_toArray, List.set_cons_zero, List.set_cons_succ]
            refine wpAnyH_done (by kernel_rfl) ?_ _
            clear hHeld
            repeat' ((fail_if_success at_builtin); (first | go_skip | go_guarded | go_step))
            go_meet
            case rel => exact ⟨_, _, _, _, _, _, _, _, _, rfl, rfl, rfl, hC8, hC9, hRj.imp (fun b h => by rcases h with h | h <;> omega), hRm.imp (fun b h => by rcases h with h | h <;> omega), hBv15⟩
           exact AllReadyH.nil
          exact AllReadyH.nil
         exact AllReadyH.nil
        refine AllReadyH.cons rfl (fun K hK => ?_) ?_
        ·
         go_simp
         generalize hx_ : World.alloc _ _ = v16
         have hC9 : CellsAt v16 v11.heap.size [.int .i64 0, .slice none 0 0] := by rw [← hx_]; exact CellsAt.new v11 #[.int .i64 0, .slice none 0 0] _
         have hbv16 : Below v11.heap.size v11 v16 := by rw [← hx_]; exact (Below.refl _ _).alloc (Nat.le_refl _) _
         have hzv16 : v11.heap.size < v16.heap.size := by rw [← hx_]; simp
         clear hx_
         have hBv16 := hBv11.trans (hbv16.mono hBv11.size)
         have hsv16 := hbv16.size
         replace hC8 := hC8.kept hbv16
         replace hRj := RV.at_ hRj (fun b h => by rcases h with h | h <;> omega) hbv16
         refine hK.out _ _ ?_ (fun hHeld => ?_)
         ·
          (try dsimp only)
          exact mkS.out _ hBv16
         clear hK K
         try simp only [Act.put, List.getElem_toArray, List.getElem_cons_zero, List.getElem_cons_succ, List.setIfInBounds_toArray, List.set_cons_zero, List.set_cons_succ]
         refine wpAnyH_ready (rs := [5]) (by kernel_rfl) (by simp) ?_
         refine AllReadyH.cons rfl (fun K hK => ?_) ?_
         ·
          go_simp
          go_at_call 23
          have CJ := tmeetB_any _ _ (ofV va) (ofV vb) ka Aa na ca kb Ab nb cb v16 yc.heap.size hBv16.size (RV.ty (RVB.below ra.out hBv16)) (RV.ty (RVB.below rb.out hBv16))
          rw [bM.out] at CJ
          refine CJ.mono ?_
          clear CJ
          rintro e v17 ⟨Am, nm, cm, rfl, hNm, hbv17⟩
          dsimp only
          have hBv17 := hBv16.trans (hbv17.mono hBv16.size)
          have hsv17 := hbv17.size
          replace hC8 := hC8.kept hbv17
          replace hC9 := hC9.kept hbv17
          replace hRj := RV.at_ hRj (fun b h => by rcases h with h | h <;> omega) hbv17
          have hRm := hNm
          clear hNm
          refine hK.out _ _ ?_ (fun hHeld => ?_)
          ·
           (try dsimp only)
           exact mkS.out _ hBv17
          clear hK K
          try simp only [Act.put, List.getElem_toArray, List.getElem_cons_zero, List.getElem_cons_succ, List.setIfInBounds_toArray, List.set_cons_zero, List.set_cons_succ]
          refine wpAnyH_ready (rs := [8]) (by kernel_rfl) (by simp) ?_
          refine AllReadyH.cons rfl (fun K hK => ?_) ?_
          ·
           have k0 := hC8.cell 0 _ rfl
           have k1 := hC8.cell 1 _ rfl
           have kf := hC8.fr
           go_simp
           have hsz_ : ((v17.setCell ⟨v1.heap.size, 0, none⟩ (.int .i64 ((VT.join va vb).kind : Int))).setCell ⟨v1.heap.size, 1, none⟩ (.slice Aj nj cj)).heap.size = v17.heap.size := by simp [World.setCell]
           have hBn := (hBv17.setCell (p := ⟨v1.heap.size, 0, none⟩) (by show yc.heap.size ≤ v1.heap.size; omega) (.int .i64 ((VT.join va vb).kind : Int))).setCell (p := ⟨v1.heap.size, 1, none⟩) (by show yc.heap.size ≤ v1.heap.size; omega) (.slice Aj nj cj)
           replace hC9 := cells_back (b4 := v1.heap.size) (.int .i64 ((VT.join va vb).kind : Int)) (.slice Aj nj cj) hC9 (by omega)
           replace hC8 := (hC8.set 0 (.int .i64 ((VT.join va vb).kind : Int))).set 1 (.slice Aj nj cj)
           replace hRj := RV.set2 (g := v1.heap.size) (.int .i64 ((VT.join va vb).kind : Int)) (.slice Aj nj cj) (fun b h => by rcases h with h | h <;> omega) hRj
           replace hRm := RV.set2 (g := v1.heap.size) (.int .i64 ((VT.join va vb).kind : Int)) (.slice Aj nj cj) (fun b h => by rcases h with h | h <;> omega) hRm
           generalize hx_ : World.setCell (World.setCell _ _ _) _ _ = v18 at hsz_ hBn hC8 hC9 hRj hRm ⊢
           clear hx_ k0 k1 kf
           have hBv18 := hBn
           have hsv18 : v17.heap.size ≤ v18.heap.size := by rw [hsz_]; exact Nat.le_refl _
           clear hsz_ hBn
           refine hK.out _ _ ?_ (fun hHeld => ?_)
           ·
            (try dsimp only)
            exact mkS.out _ hBv18
           clear hK K
           try simp only [Act.put, List.getElem_toArray, List.getElem_cons_zero, List.getElem_cons_succ, List.setIfInBounds_toArray, List.set_cons_zero, List.set_cons_succ]
           refine wpAnyH_ready (rs := [9]) (by kernel_rfl) (by simp) ?_
           refine AllReadyH.cons rfl (fun K hK => ?_) ?_
           ·
            have k0 := hC9.cell 0 _ rfl
            have k1 := hC9.cell 1 _ rfl
            have kf := hC9.fr
            go_simp
            have hsz_ : ((v18.setCell ⟨v11.heap.size, 0, none⟩ (.int .i64 ((VT.meet va vb).kind : Int))).setCell ⟨v11.heap.size, 1, none⟩ (.slice Am nm cm)).heap.size = v18.heap.size := by simp [World.setCell]
            have hBn := (hBv18.setCell (p := ⟨v11.heap.size, 0, none⟩) (by show yc.heap.size ≤ v11.heap.size; omega) (.int .i64 ((VT.meet va vb).kind : Int))).setCell (p := ⟨v11.heap.size, 1, none⟩) (by show yc.heap.size ≤ v11.heap.size; omega) (.slice Am nm cm)
            replace hC8 := cells_back (b4 := v11.heap.size) (.int .i64 ((VT.meet va vb).kind : Int)) (.slice Am nm cm) hC8 (by omega)
            replace hC9 := (hC9.set 0 (.int .i64 ((VT.meet va vb).kind : Int))).set 1 (.slice Am nm cm)
            replace hRj := RV.set2 (g := v11.heap.size) (.int .i64 ((VT.meet va vb).kind : Int)) (.slice Am nm cm) (fun b h => by rcases h with h | h <;> omega) hRj
            replace hRm := RV.set2 (g := v11.heap.size) (.int .i64 ((VT.meet va vb).kind : Int)) (.slice Am nm cm) (fun b h => by rcases h with h | h <;> omega) hRm
            generalize hx_ : World.setCell (World.setCell _ _ _) _ _ = v19 at hsz_ hBn hC8 hC9 hRj hRm ⊢
            clear hx_ k0 k1 kf
            have hBv19 := hBn
            have hsv19 : v18.heap.size ≤ v19.heap.size := by rw [hsz_]; exact Nat.le_refl _
            clear hsz_ hBn
            refine hK.out _ _ ?_ (fun hHeld => ?_)
            ·
             (try dsimp only)
             exact mkS.out _ hBv19
            clear hK K
            try simp only [Act.put, List.getElem_toArray, List.getElem_cons_zero, List.getElem_cons_succ, List.setIfInBounds_toArray, List.set_cons_zero, List.set_cons_succ]
            refine wpAnyH_done (by kernel_rfl) ?_ _
            clear hHeld
            repeat' ((fail_if_success at_builtin); (first | go_skip | go_guarded | go_step))
            go_meet
            case rel => exact ⟨_, _, _, _, _, _, _, _, _, rfl, rfl, rfl, hC8, hC9, hRj.imp (fun b h => by rcases h with h | h <;> omega), hRm.imp (fun b h => by rcases h with h | h <;> omega), hBv19⟩
           exact AllReadyH.nil
          exact AllReadyH.nil
         exact AllReadyH.nil
        exact AllReadyH.nil
       refine AllReadyH.cons rfl (fun K hK => ?_) ?_
       ·
        go_simp
        generalize hx_ : World.alloc _ _ = v20
        have hC9 : CellsAt v20 v1.heap.size [.int .i64 0, .slice none 0 0] := by rw [← hx_]; exact CellsAt.new v1 #[.int .i64 0, .slice none 0 0] _
        have hbv20 : Below v1.heap.size v1 v20 := by rw [← hx_]; exact (Below.refl _ _).alloc (Nat.le_refl _) _
        have hzv20 : v1.heap.size < v20.heap.size := by rw [← hx_]; simp
        clear hx_
        have hBv20 := hBv1.trans (hbv20.mono hBv1.size)
        have hsv20 := hbv20.size
        replace hRj := RV.at_ hRj (fun b h => by rcases h with h | h <;> omega) hbv20
        refine hK.out _ _ ?_ (fun hHeld => ?_)
        ·
         (try dsimp only)
         exact mkS.out _ hBv20
        clear hK K
        try simp only [Act.put, List.getElem_toArray, List.getElem_cons_zero, List.getElem_cons_succ, List.setIfInBounds_toArray, List.set_cons_zero, List.set_cons_succ]
        refine wpAnyH_ready (rs := [5, 6]) (by kernel_rfl) (by simp) ?_
        refine AllReadyH.cons rfl (fun K hK => ?_) ?_
        ·
         go_simp
         go_at_call 23
         have CJ := tmeetB_any _ _ (ofV va) (ofV vb) ka Aa na ca kb Ab nb cb v20 yc.heap.size hBv20.size (RV.ty (RVB.below ra.out hBv20)) (RV.ty (RVB.below rb.out hBv20))
         rw [bM.out] at CJ
         refine CJ.mono ?_
         clear CJ
         rintro e v21 ⟨Am, nm, cm, rfl, hNm, hbv21⟩
         dsimp only
         have hBv21 := hBv20.trans (hbv21.mono hBv20.size)
         have hsv21 := hbv21.size
         replace hC9 := hC9.kept hbv21
         replace hRj := RV.at_ hRj (fun b h => by rcases h with h | h <;> omega) hbv21
         have hRm := hNm
         clear hNm
         refine hK.out _ _ ?_ (fun hHeld => ?_)
         ·
          (try dsimp only)
          exact mkS.out _ hBv21
         clear hK K
         try simp only [Act.put, List.getElem_toArray, List.getElem_cons_zero, List.getElem_cons_succ, List.setIfInBounds_toArray, List.set_cons_zero, List.set_cons_succ]
         refine wpAnyH_ready (rs := [6]) (by kernel_rfl) (by simp) ?_
         refine AllReadyH.cons rfl (fun K hK => ?_) ?_
         ·
          go_simp
          generalize hx_ : World.alloc _ _ = v22
          have hC8 : CellsAt v22 v21.heap.size [.int .i64 0, .slice none 0 0] := by rw [← hx_]; exact CellsAt.new v21 #[.int .i64 0, .slice none 0 0] _
          have hbv22 : Below v21.heap.size v21 v22 := by rw [← hx_]; exact (Below.refl _ _).alloc (Nat.le_refl _) _
          have hzv22 : v21.heap.size < v22.heap.size := by rw [← hx_]; simp
          clear hx_
          have hBv22 := hBv21.trans (hbv22.mono hBv21.size)
          have hsv22 := hbv22.size
          replace hC9 := hC9.kept hbv22
          replace hRj := RV.at_ hRj (fun b h => by rcases h with h | h <;> omega) hbv22
          replace hRm := RV.at_ hRm (fun b h => by rcases h with h | h <;> omega) hbv22
          refine hK.out _ _ ?_ (fun hHeld => ?_)
          ·
           (try dsimp only)
           exact mkS.out _ hBv22
          clear hK K
          try simp only [Act.put, List.getElem_toArray, List.getElem_cons_zero, List.getElem_cons_succ, List.setIfInBounds_toArray, List.set_cons_zero, List.set_cons_succ]
          refine wpAnyH_ready (rs := [8]) (by kernel_rfl) (by simp) ?_
          refine AllReadyH.cons rfl (fun K hK => ?_) ?_
          ·
           have k0 := hC8.cell 0 _ rfl
           have k1 := hC8.cell 1 _ rfl
           have kf := hC8.fr
           go_simp
           have hsz_ : ((v22.setCell ⟨v21.heap.size, 0, none⟩ (.int .i64 ((VT.join va vb).kind : Int))).setCell ⟨v21.heap.size, 1, none⟩ (.slice Aj nj cj)).heap.size = v22.heap.size := by simp [World.setCell]
           have hBn := (hBv22.setCell (p := ⟨v21.heap.size, 0, none⟩) (by show yc.heap.size ≤ v21.heap.size; omega) (.int .i64 ((VT.join va vb).kind : Int))).setCell (p := ⟨v21.heap.size, 1, none⟩) (by show yc.heap.size ≤ v21.heap.size; omega) (.slice Aj nj cj)
           replace hC9 := cells_back (b4 := v21.heap.size) (.int .i64 ((VT.join va vb).kind : Int)) (.slice Aj nj cj) hC9 (by omega)
           replace hC8 := (hC8.set 0 (.int .i64 ((VT.join va vb).kind : Int))).set 1 (.slice Aj nj cj)
           replace hRj := RV.set2 (g := v21.heap.size) (.int .i64 ((VT.join va vb).kind : Int)) (.slice Aj nj cj) (fun b h => by rcases h with h | h <;> omega) hRj
           replace hRm := RV.set2 (g := v21.heap.size) (.int .i64 ((VT.join va vb).kind : Int)) (.slice Aj nj cj) (fun b h => by rcases h with h | h <;> omega) hRm
           generalize hx_ : World.setCell (World.setCell _ _ _) _ _ = v23 at hsz_ hBn hC8 hC9 hRj hRm ⊢
           clear hx_ k0 k1 kf
           have hBv23 := hBn
           have hsv23 : v22.heap.size ≤ v23.heap.size := by rw [hsz_]; exact Nat.le_refl _
           clear hsz_ hBn
           refine hK.out _ _ ?_ (fun hHeld => ?_)
           ·
            (try dsimp only)
            exact mkS.out _ hBv23
           clear hK K
           try simp only [Act.put, List.getElem_toArray, List.getElem_cons_zero, List.getElem_cons_succ, List.setIfInBounds_toArray, List.set_cons_zero, List.set_cons_succ]
           refine wpAnyH_ready (rs := [9]) (by kernel_rfl) (by simp) ?_
           refine AllReadyH.cons rfl (fun K hK => ?_) ?_
           ·
            have k0 := hC9.cell 0 _ rfl
            have k1 := hC9.cell 1 _ rfl
            have kf := hC9.fr
            go_simp
            have hsz_ : ((v23.setCell ⟨v1.heap.size, 0, none⟩ (.int .i64 ((VT.meet va vb).kind : Int))).setCell ⟨v1.heap.size, 1, none⟩ (.slice Am nm cm)).heap.size = v23.heap.size := by simp [World.setCell]
            have hBn := (hBv23.setCell (p := ⟨v1.heap.size, 0, none⟩) (by show yc.heap.size ≤ v1.heap.size; omega) (.int .i64 ((VT.meet va vb).kind : Int))).setCell (p := ⟨v1.heap.size, 1, none⟩) (by show yc.heap.size ≤ v1.heap.size; omega) (.slice Am nm cm)
            replace hC8 := cells_back (b4 := v1.heap.size) (.int .i64 ((VT.meet va vb).kind : Int)) (.slice Am nm cm) hC8 (by omega)
            replace hC9 := (hC9.set 0 (.int .i64 ((VT.meet va vb).kind : Int))).set 1 (.slice Am nm cm)
            replace hRj := RV.set2 (g := v1.heap.size) (.int .i64 ((VT.meet va vb).kind : Int)) (.slice Am nm cm) (fun b h => by rcases h with h | h <;> omega) hRj
            replace hRm := RV.set2 (g := v1.heap.size) (.int .i64 ((VT.meet va vb).kind : Int)) (.slice Am nm cm) (fun b h => by rcases h with h | h <;> omega) hRm
            generalize hx_ : World.setCell (World.setCell _ _ _) _ _ = v24 at hsz_ hBn hC8 hC9 hRj hRm ⊢
            clear hx_ k0 k1 kf
            have hBv24 := hBn
            have hsv24 : v23.heap.size ≤ v24.heap.size := by rw [hsz_]; exact Nat.le_refl _
            clear hsz_ hBn
            refine hK.out _ _ ?_ (fun hHeld => ?_)
            ·
             (try dsimp only)
             exact mkS.out _ hBv24
            clear hK K
            try simp only [Act.put, List.getElem_toArray, List.getElem_cons_zero, List.getElem_cons_succ, List.setIfInBounds_toArray, List.set_cons_zero, List.set_cons_succ]
            refine wpAnyH_done (by kernel_rfl) ?_ _
            clear hHeld
            repeat' ((fail_if_success at_builtin); (first | go_skip | go_guarded | go_step))
            go_meet
            case rel => exact ⟨_, _, _, _, _, _, _, _, _, rfl, rfl, rfl, hC8, hC9, hRj.imp (fun b h => by rcases h with h | h <;> omega), hRm.imp (fun b h => by rcases h with h | h <;> omega), hBv24⟩
           exact AllReadyH.nil
          exact AllReadyH.nil
         exact AllReadyH.nil
        refine AllReadyH.cons rfl (fun K hK => ?_) ?_
        ·
         go_simp
         generalize hx_ : World.alloc _ _ = v25
         have hC8 : CellsAt v25 v20.heap.size [.int .i64 0, .slice none 0 0] := by rw [← hx_]; exact CellsAt.new v20 #[.int .i64 0, .slice none 0 0] _
         have hbv25 : Below v20.heap.size v20 v25 := by rw [← hx_]; exact (Below.refl _ _).alloc (Nat.le_refl _) _
         have hzv25 : v20.heap.size < v25.heap.size := by rw [← hx_]; simp
         clear hx_
         have hBv25 := hBv20.trans (hbv25.mono hBv20.size)
         have hsv25 := hbv25.size
         replace hC9 := hC9.kept hbv25
         replace hRj := RV.at_ hRj (fun b h => by rcases h with h | h <;> omega) hbv25
         refine hK.out _ _ ?_ (fun hHeld => ?_)
         ·
          (try dsimp only)
          exact mkS.out _ hBv25
         clear hK K
         try simp only [Act.put, List.getElem_toArray, List.getElem_cons_zero, List.getElem_cons_succ, List.setIfInBounds_toArray, List.set_cons_zero, List.set_cons_succ]
         refine wpAnyH_ready (rs := [5]) (by kernel_rfl) (by simp) ?_
         refine AllReadyH.cons rfl (fun K hK => ?_) ?_
         ·
          go_simp
          go_at_call 23
          have CJ := tmeetB_any _ _ (ofV va) (ofV vb) ka Aa na ca kb Ab nb cb v25 yc.heap.size hBv25.size (RV.ty (RVB.below ra.out hBv25)) (RV.ty (RVB.below rb.out hBv25))
          rw [bM.out] at CJ
          refine CJ.mono ?_
          clear CJ
          rintro e v26 ⟨Am, nm, cm, rfl, hNm, hbv26⟩
          dsimp only
          have hBv26 := hBv25.trans (hbv26.mono hBv25.size)
          have hsv26 := hbv26.size
          replace hC9 := hC9.kept hbv26
          replace hC8 := hC8.kept hbv26
          replace hRj := RV.at_ hRj (fun b h => by rcases h with h | h <;> omega) hbv26
          have hRm := hNm
          clear hNm
          refine hK.out _ _ ?_ (fun hHeld => ?_)
          ·
           (try dsimp only)
           exact mkS.out _ hBv26
          clear hK K
          try simp only [Act.put, List.getElem_toArray, List.getElem_cons_zero, List.getElem_cons_succ, List.setIfInBounds_toArray, List.set_cons_zero, List.set_cons_succ]
          refine wpAnyH_ready (rs := [8]) (by kernel_rfl) (by simp) ?_
          refine AllReadyH.cons rfl (fun K hK => ?_) ?_
          ·
           have k0 := hC8.cell 0 _ rfl
           have k1 := hC8.cell 1 _ rfl
           have kf := hC8.fr
           go_simp
           have hsz_ : ((v26.setCell ⟨v20.heap.size, 0, none⟩ (.int .i64 ((VT.join va vb).kind : Int))).setCell ⟨v20.heap.size, 1, none⟩ (.slice Aj nj cj)).heap.size = v26.heap.size := by simp [World.setCell]
           have hBn := (hBv26.setCell (p := ⟨v20.heap.size, 0, none⟩) (by show yc.heap.size ≤ v20.heap.size; omega) (.int .i64 ((VT.join va vb).kind : Int))).setCell (p := ⟨v20.heap.size, 1, none⟩) (by show yc.heap.size ≤ v20.heap.size; omega) (.slice Aj nj cj)
           replace hC9 := cells_back (b4 := v20.heap.size) (.int .i64 ((VT.join va vb).kind : Int)) (.slice Aj nj cj) hC9 (by omega)
           replace hC8 := (hC8.set 0 (.int .i64 ((VT.join va vb).kind : Int))).set 1 (.slice Aj nj cj)
           replace hRj := RV.set2 (g := v20.heap.size) (.int .i64 ((VT.join va vb).kind : Int)) (.slice Aj nj cj) (fun b h => by rcases h with h | h <;> omega) hRj
           replace hRm := RV.set2 (g := v20.heap.size) (.int .i64 ((VT.join va vb).kind : Int)) (.slice Aj nj cj) (fun b h => by rcases h with h | h <;> omega) hRm
           generalize hx_ : World.setCell (World.setCell _ _ _) _ _ = v27 at hsz_ hBn hC8 hC9 hRj hRm ⊢
           clear hx_ k0 k1 kf
           have hBv27 := hBn
           have hsv27 : v26.heap.size ≤ v27.heap.size := by rw [hsz_]; exact Nat.le_refl _
           clear hsz_ hBn
           refine hK.out _ _ ?_ (fun hHeld => ?_)
           ·
            (try dsimp only)
            exact mkS.out _ hBv27
           clear hK K
           try simp only [Act.put, List.getElem_toArray, List.getElem_cons_zero, List.getElem_cons_succ, List.setIfInBounds_toArray, List.set_cons_zero, List.set_cons_succ]
           refine wpAnyH_ready (rs := [9]) (by kernel_rfl) (by simp) ?_
           refine AllReadyH.cons rfl (fun K hK => ?_) ?_
           ·
            have k0 := hC9.cell 0 _ rfl
            have k1 := hC9.cell 1 _ rfl
            have kf := hC9.fr
            go_simp
            have hsz_ : ((v27.setCell ⟨v1.heap.size, 0, none⟩ (.int .i64 ((VT.meet va vb).kind : Int))).setCell ⟨v1.heap.size, 1, none⟩ (.slice Am nm cm)).heap.size = v27.heap.size := by simp [World.setCell]
            have hBn := (hBv27.setCell (p := ⟨v1.heap.size, 0, none⟩) (by show yc.heap.size ≤ v1.heap.size; omega) (.int .i64 ((VT.meet va vb).kind : Int))).setCell (p := ⟨v1.heap.size, 1, none⟩) (by show yc.heap.size ≤ v1.heap.size; omega) (.slice Am nm cm)
            replace hC8 := cells_back (b4 := v1.heap.size) (.int .i64 ((VT.meet va vb).kind : Int)) (.slice Am nm cm) hC8 (by omega)
            replace hC9 := (hC9.set 0 (.int .i64 ((VT.meet va vb).kind : Int))).set 1 (.slice Am nm cm)
            replace hRj := RV.set2 (g := v1.heap.size) (.int .i64 ((VT.meet va vb).kind : Int)) (.slice Am nm cm) (fun b h => by rcases h with h | h <;> omega) hRj
            replace hRm := RV.set2 (g := v1.heap.size) (.int .i64 ((VT.meet va vb).kind : Int)) (.slice Am nm cm) (fun b h => by rcases h with h | h <;> omega) hRm
            generalize hx_ : World.setCell (World.setCell _ _ _) _ _ = v28 at hsz_ hBn hC8 hC9 hRj hRm ⊢
            clear hx_ k0 k1 kf
            have hBv28 := hBn
            have hsv28 : v27.heap.size ≤ v28.heap.size := by rw [hsz_]; exact Nat.le_refl _
            clear hsz_ hBn
            refine hK.out _ _ ?_ (fun hHeld => ?_)
            ·
             (try dsimp only)
             exact mkS.out _ hBv28
            clear hK K
            try simp only [Act.put, List.getElem_toArray, List.getElem_cons_zero, List.getElem_cons_succ, List.setIfInBounds_toArray, List.set_cons_zero, List.set_cons_succ]
            refine wpAnyH_done (by kernel_rfl) ?_ _
            clear hHeld
            repeat' ((fail_if_success at_builtin); (first | go_skip | go_guarded | go_step))
            go_meet
            case rel => exact ⟨_, _, _, _, _, _, _, _, _, rfl, rfl, rfl, hC8, hC9, hRj.imp (fun b h => by rcases h with h | h <;> omega), hRm.imp (fun b h => by rcases h with h | h <;> omega), hBv28⟩
           exact AllReadyH.nil
          exact AllReadyH.nil
         exact AllReadyH.nil
        exact AllReadyH.nil
       exact AllReadyH.nil
      refine AllReadyH.cons rfl (fun K hK => ?_) ?_
      ·
       go_simp
       generalize hx_ : World.alloc _ _ = v29
       have hC8 : CellsAt v29 d0.heap.size [.int .i64 0, .slice none 0 0] := by rw [← hx_]; exact CellsAt.new d0 #[.int .i64 0, .slice none 0 0] _
       have hbv29 : Below d0.heap.size d0 v29 := by rw [← hx_]; exact (Below.refl _ _).alloc (Nat.le_refl _) _
       have hzv29 : d0.heap.size < v29.heap.size := by rw [← hx_]; simp
       clear hx_
       have hBv29 := hB0.trans (hbv29.mono hB0.size)
       have hsv29 := hbv29.size
       refine hK.out _ _ ?_ (fun hHeld => ?_)
       ·
        (try dsimp only)
        exact mkS.out _ hBv29
       clear hK K
       try simp only [Act.put, List.getElem_toArray, List.getElem_cons_zero, List.getElem_cons_succ, List.setIfInBounds_toArray, List.set_cons_zero, List.set_cons_succ]
       refine wpAnyH_ready (rs := [2, 7]) (by kernel_rfl) (by simp) ?_
       refine AllReadyH.cons rfl (fun K hK => ?_) ?_
       ·
        go_simp
        go_at_call 21
        have CJ := tjoinB_any _ _ (ofV va) (ofV vb) ka Aa na ca kb Ab nb cb v29 yc.heap.size hBv29.size (RV.ty (RVB.below ra.out hBv29)) (RV.ty (RVB.below rb.out hBv29))
        rw [bJ.out] at CJ
        refine CJ.mono ?_
        clear CJ
        rintro e v30 ⟨Aj, nj, cj, rfl, hNj, hbv30⟩
        dsimp only
        have hBv30 := hBv29.trans (hbv30.mono hBv29.size)
        have hsv30 := hbv30.size
        replace hC8 := hC8.kept hbv30
        have hRj := hNj
        clear hNj
        refine hK.out _ _ ?_ (fun hHeld => ?_)
        ·
         (try dsimp only)
         exact mkS.out _ hBv30
        clear hK K
        try simp only [Act.put, List.getElem_toArray, List.getElem_cons_zero, List.getElem_cons_succ, List.setIfInBounds_toArray, List.set_cons_zero, List.set_cons_succ]
        refine wpAnyH_ready (rs := [5, 7]) (by kernel_rfl) (by simp) ?_
        refine AllReadyH.cons rfl (fun K hK => ?_) ?_
        ·
         go_simp
         go_at_call 23
         have CJ := tmeetB_any _ _ (ofV va) (ofV vb) ka Aa na ca kb Ab nb cb v30 yc.heap.size hBv30.size (RV.ty (RVB.below ra.out hBv30)) (RV.ty (RVB.below rb.out hBv30))
         rw [bM.out] at CJ
         refine CJ.mono ?_
         clear CJ
         rintro e v31 ⟨Am, nm, cm, rfl, hNm, hbv31⟩
         dsimp only
         have hBv31 := hBv30.trans (hbv31.mono hBv30.size)
         have hsv31 := hbv31.size
         replace hC8 := hC8.kept hbv31
         replace hRj := RV.at_ hRj (fun b h => by rcases h with h | h <;> omega) hbv31
         have hRm := hNm
         clear hNm
         refine hK.out _ _ ?_ (fun hHeld => ?_)
         ·
          (try dsimp only)
          exact mkS.out _ hBv31
         clear hK K
         try simp only [Act.put, List.getElem_toArray, List.getElem_cons_zero, List.getElem_cons_succ, List.setIfInBounds_toArray, List.set_cons_zero, List.set_cons_succ]
         refine wpAnyH_ready (rs := [7]) (by kernel_rfl) (by simp) ?_
         refine AllReadyH.cons rfl (fun K hK => ?_) ?_
         ·
          go_simp
          generalize hx_ : World.alloc _ _ = v32
          have hC9 : CellsAt v32 v31.heap.size [.int .i64 0, .slice none 0 0] := by rw [← hx_]; exact CellsAt.new v31 #[.int .i64 0, .slice none 0 0] _
          have hbv32 : Below v31.heap.size v31 v32 := by rw [← hx_]; exact (Below.refl _ _).alloc (Nat.le_refl _) _
          have hzv32 : v31.heap.size < v32.heap.size := by rw [← hx_]; simp
          clear hx_
          have hBv32 := hBv31.trans (hbv32.mono hBv31.size)
          have hsv32 := hbv32.size
          replace hC8 := hC8.kept hbv32
          replace hRj := RV.at_ hRj (fun b h => by rcases h with h | h <;> omega) hbv32
          replace hRm := RV.at_ hRm (fun b h => by rcases h with h | h <;> omega) hbv32
          refine hK.out _ _ ?_ (fun hHeld => ?_)
          ·
           (try dsimp only)
           exact mkS.out _ hBv32
          clear hK K
          try simp only [Act.put, List.getElem_toArray, List.getElem_cons_zero, List.getElem_cons_succ, List.setIfInBounds_toArray, List.set_cons_zero, List.set_cons_succ]
          refine wpAnyH_ready (rs := [8]) (by kernel_rfl) (by simp) ?_
          refine AllReadyH.cons rfl (fun K hK => ?_) ?_
          ·
           have k0 := hC8.cell 0 _ rfl
           have k1 := hC8.cell 1 _ rfl
           have kf := hC8.fr
           go_simp
           have hsz_ : ((v32.setCell ⟨d0.heap.size, 0, none⟩ (.int .i64 ((VT.join va vb).kind : Int))).setCell ⟨d0.heap.size, 1, none⟩ (.slice Aj nj cj)).heap.size = v32.heap.size := by simp [World.setCell]
           have hBn := (hBv32.setCell (p := ⟨d0.heap.size, 0, none⟩) (by show yc.heap.size ≤ d0.heap.size; omega) (.int .i64 ((VT.join va vb).kind : Int))).setCell (p := ⟨d0.heap.size, 1, none⟩) (by show yc.heap.size ≤ d0.heap.size; omega) (.slice Aj nj cj)
           replace hC9 := cells_back (b4 := d0.heap.size) (.int .i64 ((VT.join va vb).kind : Int)) (.slice Aj nj cj) hC9 (by omega)
           replace hC8 := (hC8.set 0 (.int .i64 ((VT.join va vb).kind : Int))).set 1 (.slice Aj nj cj)
           replace hRj := RV.set2 (g := d0.heap.size) (.int .i64 ((VT.join va vb).kind : Int)) (.slice Aj nj cj) (fun b h => by rcases h with h | h <;> omega) hRj
           replace hRm := RV.set2 (g := d0.heap.size) (.int .i64 ((VT.join va vb).kind : Int)) (.slice Aj nj cj) (fun b h => by rcases h with h | h <;> omega) hRm
           generalize hx_ : World.setCell (World.setCell _ _ _) _ _ = v33 at hsz_ hBn hC8 hC9 hRj hRm ⊢
           clear hx_ k0 k1 kf
           have hBv33 := hBn
           have hsv33 : v32.heap.size ≤ v33.heap.size := by rw [hsz_]; exact Nat.le_refl _
           clear hsz_ hBn
           refine hK.out _ _ ?_ (fun hHeld => ?_)
           ·
            (try dsimp only)
            exact mkS.out _ hBv33
           clear hK K
           try simp only [Act.put, List.getElem_toArray, List.getElem_cons_zero, List.getElem_cons_succ, List.setIfInBounds_toArray, List.set_cons_zero, List.set_cons_succ]
           refine wpAnyH_ready (rs := [9]) (by kernel_rfl) (by simp) ?_
           refine AllReadyH.cons rfl (fun K hK => ?_) ?_
           ·
            have k0 := hC9.cell 0 _ rfl
            have k1 := hC9.cell 1 _ rfl
            have kf := hC9.fr
            go_simp
            have hsz_ : ((v33.setCell ⟨v31.heap.size, 0, none⟩ (.int .i64 ((VT.meet va vb).kind : Int))).setCell ⟨v31.heap.size, 1, none⟩ (.slice Am nm cm)).heap.size = v33.heap.size := by simp [World.setCell]
            have hBn := (hBv33.setCell (p := ⟨v31.heap.size, 0, none⟩) (by show yc.heap.size ≤ v31.heap.size; omega) (.int .i64 ((VT.meet va vb).kind : Int))).setCell (p := ⟨v31.heap.size, 1, none⟩) (by show yc.heap.size ≤ v31.heap.size; omega) (.slice Am nm cm)
            replace hC8 := cells_back (b4 := v31.heap.size) (.int .i64 ((VT.meet va vb).kind : Int)) (.slice Am nm cm) hC8 (by omega)
            replace hC9 := (hC9.set 0 (.int .i64 ((VT.meet va vb).kind : Int))).set 1 (.slice Am nm cm)
            replace hRj := RV.set2 (g := v31.heap.size) (.int .i64 ((VT.meet va vb).kind : Int)) (.slice Am nm cm) (fun b h => by rcases h with h | h <;> omega) hRj
            replace hRm := RV.set2 (g := v31.heap.size) (.int .i64 ((VT.meet va vb).kind : Int)) (.slice Am nm cm) (fun b h => by rcases h with h | h <;> omega) hRm
            generalize hx_ : World.setCell (World.setCell _ _ _) _ _ = v34 at hsz_ hBn hC8 hC9 hRj hRm ⊢
            clear hx_ k0 k1 kf
            have hBv34 := hBn
            have hsv34 : v33.heap.size ≤ v34.heap.size := by rw [hsz_]; exact Nat.le_refl _
            clear hsz_ hBn
            refine hK.out _ _ ?_ (fun hHeld => ?_)
            ·
             (try dsimp only)
             exact mkS.out _ hBv34
            clear hK K
            try simp only [Act.put, List.getElem_toArray, List.getElem_cons_zero, List.getElem_cons_succ, List.setIfInBounds_toArray, List.set_cons_zero, List.set_cons_succ]
            refine wpAnyH_done (by kernel_rfl) ?_ _
            clear hHeld
            repeat' ((fail_if_success at_builtin); (first | go_skip | go_guarded | go_step))
            go_meet
            case rel => exact ⟨_, _, _, _, _, _, _, _, _, rfl, rfl, rfl, hC8, hC9, hRj.imp (fun b h => by rcases h with h | h <;> omega), hRm.imp (fun b h => by rcases h with h | h <;> omega), hBv34⟩
           exact AllReadyH.nil
          exact AllReadyH.nil
         exact AllReadyH.nil
        refine AllReadyH.cons rfl (fun K hK => ?_) ?_
        ·
         go_simp
         generalize hx_ : World.alloc _ _ = v35
         have hC9 : CellsAt v35 v30.heap.size [.int .i64 0, .slice none 0 0] := by rw [← hx_]; exact CellsAt.new v30 #[.int .i64 0, .slice none 0 0] _
         have hbv35 : Below v30.heap.size v30 v35 := by rw [← hx_]; exact (Below.refl _ _).alloc (Nat.le_refl _) _
         have hzv35 : v30.heap.size < v35.heap.size := by rw [← hx_]; simp
         clear hx_
         have hBv35 := hBv30.trans (hbv35.mono hBv30.size)
         have hsv35 := hbv35.size
         replace hC8 := hC8.kept hbv35
         replace hRj := RV.at_ hRj (fun b h => by rcases h with h | h <;> omega) hbv35
         refine hK.out _ _ ?_ (fun hHeld => ?_)
         ·
          (try dsimp only)
          exact mkS.out _ hBv35
         clear hK K
         try simp only [Act.put, List.getElem_toArray, List.getElem_cons_zero, List.getElem_cons_succ, List.setIfInBounds_toArray, List.set_cons_zero, List.set_cons_succ]
         refine wpAnyH_ready (rs := [5]) (by kernel_rfl) (by simp) ?_
         refine AllReadyH.cons rfl (fun K hK => ?_) ?_
         ·
          go_simp
          go_at_call 23
          have CJ := tmeetB_any _ _ (ofV va) (ofV vb) ka Aa na ca kb Ab nb cb v35 yc.heap.size hBv35.size (RV.ty (RVB.below ra.out hBv35)) (RV.ty (RVB.below rb.out hBv35))
          rw [bM.out] at CJ
          refine CJ.mono ?_
          clear CJ
          rintro e v36 ⟨Am, nm, cm, rfl, hNm, hbv36⟩
          dsimp only
          have hBv36 := hBv35.trans (hbv36.mono hBv35.size)
          have hsv36 := hbv36.size
          replace hC8 := hC8.kept hbv36
          replace hC9 := hC9.kept hbv36
          replace hRj := RV.at_ hRj (fun b h => by rcases h with h | h <;> omega) hbv36
          have hRm := hNm
          clear hNm
          refine hK.out _ _ ?_ (fun hHeld => ?_)
          ·
           (try dsimp only)
           exact mkS.out _ hBv36
          clear hK K
          try simp only [Act.put, List.getElem_toArray, List.getElem_cons_zero, List.getElem_cons_succ, List.setIfInBounds_toArray, List.set_cons_zero, List.set_cons_succ]
          refine wpAnyH_ready (rs := [8]) (by kernel_rfl) (by simp) ?_
          refine AllReadyH.cons rfl (fun K hK => ?_) ?_
          ·
           have k0 := hC8.cell 0 _ rfl
           have k1 := hC8.cell 1 _ rfl
           have kf := hC8.fr
           go_simp
           have hsz_ : ((v36.setCell ⟨d0.heap.size, 0, none⟩ (.int .i64 ((VT.join va vb).kind : Int))).setCell ⟨d0.heap.size, 1, none⟩ (.slice Aj nj cj)).heap.size = v36.heap.size := by simp [World.setCell]
           have hBn := (hBv36.setCell (p := ⟨d0.heap.size, 0, none⟩) (by show yc.heap.size ≤ d0.heap.size; omega) (.int .i64 ((VT.join va vb).kind : Int))).setCell (p := ⟨d0.heap.size, 1, none⟩) (by show yc.heap.size ≤ d0.heap.size; omega) (.slice Aj nj cj)
           replace hC9 := cells_back (b4 := d0.heap.size) (.int .i64 ((VT.join va vb).kind : Int)) (.slice Aj nj cj) hC9 (by omega)
           replace hC8 := (hC8.set 0 (.int .i64 ((VT.join va vb).kind : Int))).set 1 (.slice Aj nj cj)
           replace hRj := RV.set2 (g := d0.heap.size) (.int .i64 ((VT.join va vb).kind : Int)) (.slice Aj nj cj) (fun b h => by rcases h with h | h <;> omega) hRj
           replace hRm := RV.set2 (g := d0.heap.size) (.int .i64 ((VT.join va vb).kind : Int)) (.slice Aj nj cj) (fun b h => by rcases h with h | h <;> omega) hRm
           generalize hx_ : World.setCell (World.setCell _ _ _) _ _ = v37 at hsz_ hBn hC8 hC9 hRj hRm ⊢
           clear hx_ k0 k1 kf
           have hBv37 := hBn
           have hsv37 : v36.heap.size ≤ v37.heap.size := by rw [hsz_]; exact Nat.le_refl _
           clear hsz_ hBn
           refine hK.out _ _ ?_ (fun hHeld => ?_)
           ·
            (try dsimp only)
            exact mkS.out _ hBv37
           clear hK K
           try simp only [Act.put, List.getElem_toArray, List.getElem_cons_zero, List.getElem_cons_succ, List.setIfInBounds_toArray, List.set_cons_zero, List.set_cons_succ]
           refine wpAnyH_ready (rs := [9]) (by kernel_rfl) (by simp) ?_
           refine AllReadyH.cons rfl (fun K hK => ?_) ?_
           ·
            have k0 := hC9.cell 0 _ rfl
            have k1 := hC9.cell 1 _ rfl
            have kf := hC9.fr
            go_simp
            have hsz_ : ((v37.setCell ⟨v30.heap.size, 0, none⟩ (.int .i64 ((VT.meet va vb).kind : Int))).setCell ⟨v30.heap.size, 1, none⟩ (.slice Am nm cm)).heap.size = v37.heap.size := by simp [World.setCell]
            have hBn := (hBv37.setCell (p := ⟨v30.heap.size, 0, none⟩) (by show yc.heap.size ≤ v30.heap.size; omega) (.int .i64 ((VT.meet va vb).kind : Int))).setCell (p := ⟨v30.heap.size, 1, none⟩) (by show yc.heap.size ≤ v30.heap.size; omega) (.slice Am nm cm)
            replace hC8 := cells_back (b4 := v30.heap.size) (.int .i64 ((VT.meet va vb).kind : Int)) (.slice Am nm cm) hC8 (by omega)
            replace hC9 := (hC9.set 0 (.int .i64 ((VT.meet va vb).kind : Int))).set 1 (.slice Am nm cm)
            replace hRj := RV.set2 (g := v30.heap.size) (.int .i64 ((VT.meet va vb).kind : Int)) (.slice Am nm cm) (fun b h => by rcases h with h | h <;> omega) hRj
            replace hRm := RV.set2 (g := v30.heap.size) (.int .i64 ((VT.meet va vb).kind : Int)) (.slice Am nm cm) (fun b h => by rcases h with h | h <;> omega) hRm
            generalize hx_ : World.setCell (World.setCell _ _ _) _ _ = v38 at hsz_ hBn hC8 hC9 hRj hRm ⊢
            clear hx_ k0 k1 kf
            have hBv38 := hBn
            have hsv38 : v37.heap.size ≤ v38.heap.size := by rw [hsz_]; exact Nat.le_refl _
            clear hsz_ hBn
            refine hK.out _ _ ?_ (fun hHeld => ?_)
            ·
             (try dsimp only)
             exact mkS.out _ hBv38
            clear hK K
            try simp only [Act.put, List.getElem_toArray, List.getElem_cons_zero, List.getElem_cons_succ, List.setIfInBounds_toArray, List.set_cons_zero, List.set_cons_succ]
            refine wpAnyH_done (by kernel_rfl) ?_ _
            clear hHeld
            repeat' ((fail_if_success at_builtin); (first | go_skip | go_guarded | go_step))
            go_meet
            case rel => exact ⟨_, _, _, _, _, _, _, _, _, rfl, rfl, rfl, hC8, hC9, hRj.imp (fun b h => by rcases h with h | h <;> omega), hRm.imp (fun b h => by rcases h with h | h <;> omega), hBv38⟩
           exact AllReadyH.nil
          exact AllReadyH.nil
         exact AllReadyH.nil
        exact AllReadyH.nil
       refine AllReadyH.cons rfl (fun K hK => ?_) ?_
       ·
        go_simp
        generalize hx_ : World.alloc _ _ = v39
        have hC9 : CellsAt v39 v29.heap.size [.int .i64 0, .slice none 0 0] := by rw [← hx_]; exact CellsAt.new v29 #[.int .i64 0, .slice none 0 0] _
        have hbv39 : Below v29.heap.size v29 v39 := by rw [← hx_]; exact (Below.refl _ _).alloc (Nat.le_refl _) _
        have hzv39 : v29.heap.size < v39.heap.size := by rw [← hx_]; simp
        clear hx_
        have hBv39 := hBv29.trans (hbv39.mono hBv29.size)
        have hsv39 := hbv39.size
        replace hC8 := hC8.kept hbv39
        refine hK.out _ _ ?_ (fun hHeld => ?_)
        ·
         (try dsimp only)
         exact mkS.out _ hBv39
        clear hK K
        try simp only [Act.put, List.getElem_toArray, List.getElem_cons_zero, List.getElem_cons_succ, List.setIfInBounds_toArray, List.set_cons_zero, List.set_cons_succ]
        refine wpAnyH_ready (rs := [2]) (by kernel_rfl) (by simp) ?_
        refine AllReadyH.cons rfl (fun K hK => ?_) ?_
        ·
         go_simp
         go_at_call 21
         have CJ := tjoinB_any _ _ (ofV va) (ofV vb) ka Aa na ca kb Ab nb cb v39 yc.heap.size hBv39.size (RV.ty (RVB.below ra.out hBv39)) (RV.ty (RVB.below rb.out hBv39))
         rw [bJ.out] at CJ
         refine CJ.mono ?_
         clear CJ
         rintro e v40 ⟨Aj, nj, cj, rfl, hNj, hbv40⟩
         dsimp only
         have hBv40 := hBv39.trans (hbv40.mono hBv39.size)
         have hsv40 := hbv40.size
         replace hC8 := hC8.kept hbv40
         replace hC9 := hC9.kept hbv40
         have hRj := hNj
         clear hNj
         refine hK.out _ _ ?_ (fun hHeld => ?_)
         ·
          (try dsimp only)
          exact mkS.out _ hBv40
         clear hK K
         try simp only [Act.put, List.getElem_toArray, List.getElem_cons_zero, List.getElem_cons_succ, List.setIfInBounds_toArray, List.set_cons_zero, List.set_cons_succ]
         refine wpAnyH_ready (rs := [5]) (by kernel_rfl) (by simp) ?_
         refine AllReadyH.cons rfl (fun K hK => ?_) ?_
         ·
          go_simp
          go_at_call 23
          have CJ := tmeetB_any _ _ (ofV va) (ofV vb) ka Aa na ca kb Ab nb cb v40 yc.heap.size hBv40.size (RV.ty (RVB.below ra.out hBv40)) (RV.ty (RVB.below rb.out hBv40))
          rw [bM.out] at CJ
          refine CJ.mono ?_
          clear CJ
          rintro e v41 ⟨Am, nm, cm, rfl, hNm, hbv41⟩
          dsimp only
          have hBv41 := hBv40.trans (hbv41.mono hBv40.size)
          have hsv41 := hbv41.size
          replace hC8 := hC8.kept hbv41
          replace hC9 := hC9.kept hbv41
          replace hRj := RV.at_ hRj (fun b h => by rcases h with h | h <;> omega) hbv41
          have hRm := hNm
          clear hNm
          refine hK.out _ _ ?_ (fun hHeld => ?_)
          ·
           (try dsimp only)
           exact mkS.out _ hBv41
          clear hK K
          try simp only [Act.put, List.getElem_toArray, List.getElem_cons_zero, List.getElem_cons_succ, List.setIfInBounds_toArray, List.set_cons_zero, List.set_cons_succ]
          refine wpAnyH_ready (rs := [8]) (by kernel_rfl) (by simp) ?_
          refine AllReadyH.cons rfl (fun K hK => ?_) ?_
          ·
           have k0 := hC8.cell 0 _ rfl
           have k1 := hC8.cell 1 _ rfl
           have kf := hC8.fr
           go_simp
           have hsz_ : ((v41.setCell ⟨d0.heap.size, 0, none⟩ (.int .i64 ((VT.join va vb).kind : Int))).setCell ⟨d0.heap.size, 1, none⟩ (.slice Aj nj cj)).heap.size = v41.heap.size := by simp [World.setCell]
           have hBn := (hBv41.setCell (p := ⟨d0.heap.size, 0, none⟩) (by show yc.heap.size ≤ d0.heap.size; omega) (.int .i64 ((VT.join va vb).kind : Int))).setCell (p := ⟨d0.heap.size, 1, none⟩) (by show yc.heap.size ≤ d0.heap.size; omega) (.slice Aj nj cj)
           replace hC9 := cells_back (b4 := d0.heap.size) (.int .i64 ((VT.join va vb).kind : Int)) (.slice Aj nj cj) hC9 (by omega)
           replace hC8 := (hC8.set 0 (.int .i64 ((VT.join va vb).kind : Int))).set 1 (.slice Aj nj cj)
           replace hRj := RV.set2 (g := d0.heap.size) (.int .i64 ((VT.join va vb).kind : Int)) (.slice Aj nj cj) (fun b h => by rcases h with h | h <;> omega) hRj
           replace hRm := RV.set2 (g := d0.heap.size) (.int .i64 ((VT.join va vb).kind : Int)) (.slice Aj nj cj) (fun b h => by rcases h with h | h <;> omega) hRm
           generalize hx_ : World.setCell (World.setCell _ _ _) _ _ = v42 at hsz_ hBn hC8 hC9 hRj hRm ⊢
           clear hx_ k0 k1 kf
           have hBv42 := hBn
           have hsv42 : v41.heap.size ≤ v42.heap.size := by rw [hsz_]; exact Nat.le_refl _
           clear hsz_ hBn
           refine hK.out _ _ ?_ (fun hHeld => ?_)
           ·
            (try dsimp only)
            exact mkS.out _ hBv42
           clear hK K
           try simp only [Act.put, List.getElem_toArray, List.getElem_cons_zero, List.getElem_cons_succ, List.setIfInBounds_toArray, List.set_cons_zero, List.set_cons_succ]
           refine wpAnyH_ready (rs := [9]) (by kernel_rfl) (by simp) ?_
           refine AllReadyH.cons rfl (fun K hK => ?_) ?_
           ·
            have k0 := hC9.cell 0 _ rfl
            have k1 := hC9.cell 1 _ rfl
            have kf := hC9.fr
            go_simp
            have hsz_ : ((v42.setCell ⟨v29.heap.size, 0, none⟩ (.int .i64 ((VT.meet va vb).kind : Int))).setCell ⟨v29.heap.size, 1, none⟩ (.slice Am nm cm)).heap.size = v42.heap.size := by simp [World.setCell]
            have hBn := (hBv42.setCell (p := ⟨v29.heap.size, 0, none⟩) (by show yc.heap.size ≤ v29.heap.size; omega) (.int .i64 ((VT.meet va vb).kind : Int))).setCell (p := ⟨v29.heap.size, 1, none⟩) (by show yc.heap.size ≤ v29.heap.size; omega) (.slice Am nm cm)
            replace hC8 := cells_back (b4 := v29.heap.size) (.int .i64 ((VT.meet va vb).kind : Int)) (.slice Am nm cm) hC8 (by omega)
            replace hC9 := (hC9.set 0 (.int .i64 ((VT.meet va vb).kind : Int))).set 1 (.slice Am nm cm)
            replace hRj := RV.set2 (g := v29.heap.size) (.int .i64 ((VT.meet va vb).kind : Int)) (.slice Am nm cm) (fun b h => by rcases h with h | h <;> omega) hRj
            replace hRm := RV.set2 (g := v29.heap.size) (.int .i64 ((VT.meet va vb).kind : Int)) (.slice Am nm cm) (fun b h => by rcases h with h | h <;> omega) hRm
            generalize hx_ : World.setCell (World.setCell _ _ _) _ _ = v43 at hsz_ hBn hC8 hC9 hRj hRm ⊢
            clear hx_ k0 k1 kf
            have hBv43 := hBn
            have hsv43 : v42.heap.size ≤ v43.heap.size := by rw [hsz_]; exact Nat.le_refl _
            clear hsz_ hBn
            refine hK.out _ _ ?_ (fun hHeld => ?_)
            ·
             (try dsimp only)
             exact mkS.out _ hBv43
            clear hK K
            try simp only [Act.put, List.getElem_toArray, List.getElem_cons_zero, List.getElem_cons_succ, List.setIfInBounds_toArray, List.set_cons_zero, List.set_cons_succ]
            refine wpAnyH_done (by kernel_rfl) ?_ _
            clear hHeld
            repeat' ((fail_if_success at_builtin); (first | go_skip | go_guarded | go_step))
            go_meet
            case rel => exact ⟨_, _, _, _, _, _, _, _, _, rfl, rfl, rfl, hC8, hC9, hRj.imp (fun b h => by rcases h with h | h <;> omega), hRm.imp (fun b h => by rcases h with h | h <;> omega), hBv43⟩
           exact AllReadyH.nil
          exact AllReadyH.nil
         exact AllReadyH.nil
        exact AllReadyH.nil
       exact AllReadyH.nil
      refine AllReadyH.cons rfl (fun K hK => ?_) ?_
      ·
       go_simp
       generalize hx_ : World.alloc _ _ = v44
       have hC9 : CellsAt v44 d0.heap.size [.int .i64 0, .slice none 0 0] := by rw [← hx_]; exact CellsAt.new d0 #[.int .i64 0, .slice none 0 0] _
       have hbv44 : Below d0.heap.size d0 v44 := by rw [← hx_]; exact (Below.refl _ _).alloc (Nat.le_refl _) _
       have hzv44 : d0.heap.size < v44.heap.size := by rw [← hx_]; simp
       clear hx_
       have hBv44 := hB0.trans (hbv44.mono hB0.size)
       have hsv44 := hbv44.size
       refine hK.out _ _ ?_ (fun hHeld => ?_)
       ·
        (try dsimp only)
        exact mkS.out _ hBv44
       clear hK K
       try simp only [Act.put, List.getElem_toArray, List.getElem_cons_zero, List.getElem_cons_succ, List.setIfInBounds_toArray, List.set_cons_zero, List.set_cons_succ]
       refine wpAnyH_ready (rs := [2, 6]) (by kernel_rfl) (by simp) ?_
       refine AllReadyH.cons rfl (fun K hK => ?_) ?_
       ·
        go_simp
        go_at_call 21
        have CJ := tjoinB_any _ _ (ofV va) (ofV vb) ka Aa na ca kb Ab nb cb v44 yc.heap.size hBv44.size (RV.ty (RVB.below ra.out hBv44)) (RV.ty (RVB.below rb.out hBv44))
        rw [bJ.out] at CJ
        refine CJ.mono ?_
        clear CJ
        rintro e v45 ⟨Aj, nj, cj, rfl, hNj, hbv45⟩
        dsimp only
        have hBv45 := hBv44.trans (hbv45.mono hBv44.size)
        have hsv45 := hbv45.size
        replace hC9 := hC9.kept hbv45
        have hRj := hNj
        clear hNj
        refine hK.out _ _ ?_ (fun hHeld => ?_)
        ·
         (try dsimp only)
         exact mkS.out _ hBv45
        clear hK K
        try simp only [Act.put, List.getElem_toArray, List.getElem_cons_zero, List.getElem_cons_succ, List.setIfInBounds_toArray, List.set_cons_zero, List.set_cons_succ]
        refine wpAnyH_ready (rs := [5, 6]) (by kernel_rfl) (by simp) ?_
        refine AllReadyH.cons rfl (fun K hK => ?_) ?_
        ·
         go_simp
         go_at_call 23
         have CJ := tmeetB_any _ _ (ofV va) (ofV vb) ka Aa na ca kb Ab nb cb v45 yc.heap.size hBv45.size (RV.ty (RVB.below ra.out hBv45)) (RV.ty (RVB.below rb.out hBv45))
         rw [bM.out] at CJ
         refine CJ.mono ?_
         clear CJ
         rintro e v46 ⟨Am, nm, cm, rfl, hNm, hbv46⟩
         dsimp only
         have hBv46 := hBv45.trans (hbv46.mono hBv45.size)
         have hsv46 := hbv46.size
         replace hC9 := hC9.kept hbv46
         replace hRj := RV.at_ hRj (fun b h => by rcases h with h | h <;> omega) hbv46
         have hRm := hNm
         clear hNm
         refine hK.out _ _ ?_ (fun hHeld => ?_)
         ·
          (try dsimp only)
          exact mkS.out _ hBv46
         clear hK K
         try simp only [Act.put, List.getElem_toArray, List.getElem_cons_zero, List.getElem_cons_succ, List.setIfInBounds_toArray, List.set_cons_zero, List.set_cons_succ]
         refine wpAnyH_ready (rs := [6]) (by kernel_rfl) (by simp) ?_
         refine AllReadyH.cons rfl (fun K hK => ?_) ?_
         ·
          go_simp
          generalize hx_ : World.alloc _ _ = v47
          have hC8 : CellsAt v47 v46.heap.size [.int .i64 0, .slice none 0 0] := by rw [← hx_]; exact CellsAt.new v46 #[.int .i64 0, .slice none 0 0] _
          have hbv47 : Below v46.heap.size v46 v47 := by rw [← hx_]; exact (Below.refl _ _).alloc (Nat.le_refl _) _
          have hzv47 : v46.heap.size < v47.heap.size := by rw [← hx_]; simp
          clear hx_
          have hBv47 := hBv46.trans (hbv47.mono hBv46.size)
          have hsv47 := hbv47.size
          replace hC9 := hC9.kept hbv47
          replace hRj := RV.at_ hRj (fun b h => by rcases h with h | h <;> omega) hbv47
          replace hRm := RV.at_ hRm (fun b h => by rcases h with h | h <;> omega) hbv47
          refine hK.out _ _ ?_ (fun hHeld => ?_)
          ·
           (try dsimp only)
           exact mkS.out _ hBv47
          clear hK K
          try simp only [Act.put, List.getElem_toArray, List.getElem_cons_zero, List.getElem_cons_succ, List.setIfInBounds_toArray, List.set_cons_zero, List.set_cons_succ]
          refine wpAnyH_ready (rs := [8]) (by kernel_rfl) (by simp) ?_
          refine AllReadyH.cons rfl (fun K hK => ?_) ?_
          ·
           have k0 := hC8.cell 0 _ rfl
           have k1 := hC8.cell 1 _ rfl
           have kf := hC8.fr
           go_simp
           have hsz_ : ((v47.setCell ⟨v46.heap.size, 0, none⟩ (.int .i64 ((VT.join va vb).kind : Int))).setCell ⟨v46.heap.size, 1, none⟩ (.slice Aj nj cj)).heap.size = v47.heap.size := by simp [World.setCell]
           have hBn := (hBv47.setCell (p := ⟨v46.heap.size, 0, none⟩) (by show yc.heap.size ≤ v46.heap.size; omega) (.int .i64 ((VT.join va vb).kind : Int))).setCell (p := ⟨v46.heap.size, 1, none⟩) (by show yc.heap.size ≤ v46.heap.size; omega) (.slice Aj nj cj)
           replace hC9 := cells_back (b4 := v46.heap.size) (.int .i64 ((VT.join va vb).kind : Int)) (.slice Aj nj cj) hC9 (by omega)
           replace hC8 := (hC8.set 0 (.int .i64 ((VT.join va vb).kind : Int))).set 1 (.slice Aj nj cj)
           replace hRj := RV.set2 (g := v46.heap.size) (.int .i64 ((VT.join va vb).kind : Int)) (.slice Aj nj cj) (fun b h => by rcases h with h | h <;> omega) hRj
           replace hRm := RV.set2 (g := v46.heap.size) (.int .i64 ((VT.join va vb).kind : Int)) (.slice Aj nj cj) (fun b h => by rcases h with h | h <;> omega) hRm
           generalize hx_ : World.setCell (World.setCell _ _ _) _ _ = v48 at hsz_ hBn hC8 hC9 hRj hRm ⊢
           clear hx_ k0 k1 kf
           have hBv48 := hBn
           have hsv48 : v47.heap.size ≤ v48.heap.size := by rw [hsz_]; exact Nat.le_refl _
           clear hsz_ hBn
           refine hK.out _ _ ?_ (fun hHeld => ?_)
           ·
            (try dsimp only)
            exact mkS.out _ hBv48
           clear hK K
           try simp only [Act.put, List.getElem_toArray, List.getElem_cons_zero, List.getElem_cons_succ, List.setIfInBounds_toArray, List.set_cons_zero, List.set_cons_succ]
           refine wpAnyH_ready (rs := [9]) (by kernel_rfl) (by simp) ?_
           refine AllReadyH.cons rfl (fun K hK => ?_) ?_
           ·
            have k0 := hC9.cell 0 _ rfl
            have k1 := hC9.cell 1 _ rfl
            have kf := hC9.fr
            go_simp
            have hsz_ : ((v48.setCell ⟨d0.heap.size, 0, none⟩ (.int .i64 ((VT.meet va vb).kind : Int))).setCell ⟨d0.heap.size, 1, none⟩ (.slice Am nm cm)).heap.size = v48.heap.size := by simp [World.setCell]
            have hBn := (hBv48.setCell (p := ⟨d0.heap.size, 0, none⟩) (by show yc.heap.size ≤ d0.heap.size; omega) (.int .i64 ((VT.meet va vb).kind : Int))).setCell (p := ⟨d0.heap.size, 1, none⟩) (by show yc.heap.size ≤ d0.heap.size; omega) (.slice Am nm cm)
            replace hC8 := cells_back (b4 := d0.heap.size) (.int .i64 ((VT.meet va vb).kind : Int)) (.slice Am nm cm) hC8 (by omega)
            replace hC9 := (hC9.set 0 (.int .i64 ((VT.meet va vb).kind : Int))).set 1 (.slice Am nm cm)
            replace hRj := RV.set2 (g := d0.heap.size) (.int .i64 ((VT.meet va vb).kind : Int)) (.slice Am nm cm) (fun b h => by rcases h with h | h <;> omega) hRj
            replace hRm := RV.set2 (g := d0.heap.size) (.int .i64 ((VT.meet va vb).kind : Int)) (.slice Am nm cm) (fun b h => by rcases h with h | h <;> omega) hRm
            generalize hx_ : World.setCell (World.setCell _ _ _) _ _ = v49 at hsz_ hBn hC8 hC9 hRj hRm ⊢
            clear hx_ k0 k1 kf
            have hBv49 := hBn
            have hsv49 : v48.heap.size ≤ v49.heap.size := by rw [hsz_]; exact Nat.le_refl _
            clear hsz_ hBn
            refine hK.out _ _ ?_ (fun hHeld => ?_)
            ·
             (try dsimp only)
             exact mkS.out _ hBv49
            clear hK K
            try simp only [Act.put, List.getElem_toArray, List.getElem_cons_zero, List.getElem_cons_succ, List.setIfInBounds_toArray, List.set_cons_zero, List.set_cons_succ]
            refine wpAnyH_done (by kernel_rfl) ?_ _
            clear hHeld
            repeat' ((fail_if_success at_builtin); (first | go_skip | go_guarded | go_step))
            go_meet
            case rel => exact ⟨_, _, _, _, _, _, _, _, _, rfl, rfl, rfl, hC8, hC9, hRj.imp (fun b h => by rcases h with h | h <;> omega), hRm.imp (fun b h => by rcases h with h | h <;> omega), hBv49⟩
           exact AllReadyH.nil
          exact AllReadyH.nil
         exact AllReadyH.nil
        refine AllReadyH.cons rfl (fun K hK => ?_) ?_
        ·
         go_simp
         generalize hx_ : World.alloc _ _ = v50
         have hC8 : CellsAt v50 v45.heap.size [.int .i64 0, .slice none 0 0] := by rw [← hx_]; exact CellsAt.new v45 #[.int .i64 0, .slice none 0 0] _
         have hbv50 : Below v45.heap.size v45 v50 := by rw [← hx_]; exact (Below.refl _ _).alloc (Nat.le_refl _) _
         have hzv50 : v45.heap.size < v50.heap.size := by rw [← hx_]; simp
         clear hx_
         have hBv50 := hBv45.trans (hbv50.mono hBv45.size)
         have hsv50 := hbv50.size
         replace hC9 := hC9.kept hbv50
         replace hRj := RV.at_ hRj (fun b h => by rcases h with h | h <;> omega) hbv50
         refine hK.out _ _ ?_ (fun hHeld => ?_)
         ·
          (try dsimp only)
          exact mkS.out _ hBv50
         clear hK K
         try simp only [Act.put, List.getElem_toArray, List.getElem_cons_zero, List.getElem_cons_succ, List.setIfInBounds_toArray, List.set_cons_zero, List.set_cons_succ]
         refine wpAnyH_ready (rs := [5]) (by kernel_rfl) (by simp) ?_
         refine AllReadyH.cons rfl (fun K hK => ?_) ?_
         ·
          go_simp
          go_at_call 23
          have CJ := tmeetB_any _ _ (ofV va) (ofV vb) ka Aa na ca kb Ab nb cb v50 yc.heap.size hBv50.size (RV.ty (RVB.below ra.out hBv50)) (RV.ty (RVB.below rb.out hBv50))
          rw [bM.out] at CJ
          refine CJ.mono ?_
          clear CJ
          rintro e v51 ⟨Am, nm, cm, rfl, hNm, hbv51⟩
          dsimp only
          have hBv51 := hBv50.trans (hbv51.mono hBv50.size)
          have hsv51 := hbv51.size
          replace hC9 := hC9.kept hbv51
          replace hC8 := hC8.kept hbv51
          replace hRj := RV.at_ hRj (fun b h => by rcases h with h | h <;> omega) hbv51
          have hRm := hNm
          clear hNm
          refine hK.out _ _ ?_ (fun hHeld => ?_)
          ·
           (try dsimp only)
           exact mkS.out _ hBv51
          clear hK K
          try simp only [Act.put, List.getElem_toArray, List.getElem_cons_zero, List.getElem_cons_succ, List.setIfInBounds_toArray, List.set_cons_zero, List.set_cons_succ]
          refine wpAnyH_ready (rs := [8]) (by kernel_rfl) (by simp) ?_
          refine AllReadyH.cons rfl (fun K hK => ?_) ?_
          ·
           have k0 := hC8.cell 0 _ rfl
           have k1 := hC8.cell 1 _ rfl
           have kf := hC8.fr
           go_simp
           have hsz_ : ((v51.setCell ⟨v45.heap.size, 0, none⟩ (.int .i64 ((VT.join va vb).kind : Int))).setCell ⟨v45.heap.size, 1, none⟩ (.slice Aj nj cj)).heap.size = v51.heap.size := by simp [World.setCell]
           have hBn := (hBv51.setCell (p := ⟨v45.heap.size, 0, none⟩) (by show yc.heap.size ≤ v45.heap.size; omega) (.int .i64 ((VT.join va vb).kind : Int))).setCell (p := ⟨v45.heap.size, 1, none⟩) (by show yc.heap.size ≤ v45.heap.size; omega) (.slice Aj nj cj)
           replace hC9 := cells_back (b4 := v45.heap.size) (.int .i64 ((VT.join va vb).kind : Int)) (.slice Aj nj cj) hC9 (by omega)
           replace hC8 := (hC8.set 0 (.int .i64 ((VT.join va vb).kind : Int))).set 1 (.slice Aj nj cj)
           replace hRj := RV.set2 (g := v45.heap.size) (.int .i64 ((VT.join va vb).kind : Int)) (.slice Aj nj cj) (fun b h => by rcases h with h | h <;> omega) hRj
           replace hRm := RV.set2 (g := v45.heap.size) (.int .i64 ((VT.join va vb).kind : Int)) (.slice Aj nj cj) (fun b h => by rcases h with h | h <;> omega) hRm
           generalize hx_ : World.setCell (World.setCell _ _ _) _ _ = v52 at hsz_ hBn hC8 hC9 hRj hRm ⊢
           clear hx_ k0 k1 kf
           have hBv52 := hBn
           have hsv52 : v51.heap.size ≤ v52.heap.size := by rw [hsz_]; exact Nat.le_refl _
           clear hsz_ hBn
           refine hK.out _ _ ?_ (fun hHeld => ?_)
           ·
            (try dsimp only)
            exact mkS.out _ hBv52
           clear hK K
           try simp only [Act.put, List.getElem_toArray, List.getElem_cons_zero, List.getElem_cons_succ, List.setIfInBounds_toArray, List.set_cons_zero, List.set_cons_succ]
           refine wpAnyH_ready (rs := [9]) (by kernel_rfl) (by simp) ?_
           refine AllReadyH.cons rfl (fun K hK => ?_) ?_
           ·
            have k0 := hC9.cell 0 _ rfl
            have k1 := hC9.cell 1 _ rfl
            have kf := hC9.fr
            go_simp
            have hsz_ : ((v52.setCell ⟨d0.heap.size, 0, none⟩ (.int .i64 ((VT.meet va vb).kind : Int))).setCell ⟨d0.heap.size, 1, none⟩ (.slice Am nm cm)).heap.size = v52.heap.size := by simp [World.setCell]
            have hBn := (hBv52.setCell (p := ⟨d0.heap.size, 0, none⟩) (by show yc.heap.size ≤ d0.heap.size; omega) (.int .i64 ((VT.meet va vb).kind : Int))).setCell (p := ⟨d0.heap.size, 1, none⟩) (by show yc.heap.size ≤ d0.heap.size; omega) (.slice Am nm cm)
            replace hC8 := cells_back (b4 := d0.heap.size) (.int .i64 ((VT.meet va vb).kind : Int)) (.slice Am nm cm) hC8 (by omega)
            replace hC9 := (hC9.set 0 (.int .i64 ((VT.meet va vb).kind : Int))).set 1 (.slice Am nm cm)
            replace hRj := RV.set2 (g := d0.heap.size) (.int .i64 ((VT.meet va vb).kind : Int)) (.slice Am nm cm) (fun b h => by rcases h with h | h <;> omega) hRj
            replace hRm := RV.set2 (g := d0.heap.size) (.int .i64 ((VT.meet va vb).kind : Int)) (.slice Am nm cm) (fun b h => by rcases h with h | h <;> omega) hRm
            generalize hx_ : World.setCell (World.setCell _ _ _) _ _ = v53 at hsz_ hBn hC8 hC9 hRj hRm ⊢
            clear hx_ k0 k1 kf
            have hBv53 := hBn
            have hsv53 : v52.heap.size ≤ v53.heap.size := by rw [hsz_]; exact Nat.le_refl _
            clear hsz_ hBn
            refine hK.out _ _ ?_ (fun hHeld => ?_)
            ·
             (try dsimp only)
             exact mkS.out _ hBv53
            clear hK K
            try simp only [Act.put, List.getElem_toArray, List.getElem_cons_zero, List.getElem_cons_succ, List.setIfInBounds_toArray, List.set_cons_zero, List.set_cons_succ]
            refine wpAnyH_done (by kernel_rfl) ?_ _
            clear hHeld
            repeat' ((fail_if_success at_builtin); (first | go_skip | go_guarded | go_step))
            go_meet
            case rel => exact ⟨_, _, _, _, _, _, _, _, _, rfl, rfl, rfl, hC8, hC9, hRj.imp (fun b h => by rcases h with h | h <;> omega), hRm.imp (fun b h => by rcases h with h | h <;> omega), hBv53⟩
           exact AllReadyH.nil
          exact AllReadyH.nil
         exact AllReadyH.nil
        exact AllReadyH.nil
       refine AllReadyH.cons rfl (fun K hK => ?_) ?_
       ·
        go_simp
        generalize hx_ : World.alloc _ _ = v54
        have hC8 : CellsAt v54 v44.heap.size [.int .i64 0, .slice none 0 0] := by rw [← hx_]; exact CellsAt.new v44 #[.int .i64 0, .slice none 0 0] _
        have hbv54 : Below v44.heap.size v44 v54 := by rw [← hx_]; exact (Below.refl _ _).alloc (Nat.le_refl _) _
        have hzv54 : v44.heap.size < v54.heap.size := by rw [← hx_]; simp
        clear hx_
        have hBv54 := hBv44.trans (hbv54.mono hBv44.size)
        have hsv54 := hbv54.size
        replace hC9 := hC9.kept hbv54
        refine hK.out _ _ ?_ (fun hHeld => ?_)
        ·
         (try dsimp only)
         exact mkS.out _ hBv54
        clear hK K
        try simp only [Act.put, List.getElem_toArray, List.getElem_cons_zero, List.getElem_cons_succ, List.setIfInBounds_toArray, List.set_cons_zero, List.set_cons_succ]
        refine wpAnyH_ready (rs := [2]) (by kernel_rfl) (by simp) ?_
        refine AllReadyH.cons rfl (fun K hK => ?_) ?_
        ·
         go_simp
         go_at_call 21
         have CJ := tjoinB_any _ _ (ofV va) (ofV vb) ka Aa na ca kb Ab nb cb v54 yc.heap.size hBv54.size (RV.ty (RVB.below ra.out hBv54)) (RV.ty (RVB.below rb.out hBv54))
         rw [bJ.out] at CJ
         refine CJ.mono ?_
         clear CJ
         rintro e v55 ⟨Aj, nj, cj, rfl, hNj, hbv55⟩
         dsimp only
         have hBv55 := hBv54.trans (hbv55.mono hBv54.size)
         have hsv55 := hbv55.size
         replace hC9 := hC9.kept hbv55
         replace hC8 := hC8.kept hbv55
         have hRj := hNj
         clear hNj
         refine hK.out _ _ ?_ (fun hHeld => ?_)
         ·
          (try dsimp only)
          exact mkS.out _ hBv55
         clear hK K
         try simp only [Act.put, List.getElem_toArray, List.getElem_cons_zero, List.getElem_cons_succ, List.setIfInBounds_toArray, List.set_cons_zero, List.set_cons_succ]
         refine wpAnyH_ready (rs := [5]) (by kernel_rfl) (by simp) ?_
         refine AllReadyH.cons rfl (fun K hK => ?_) ?_
         ·
          go_simp
          go_at_call 23
          have CJ := tmeetB_any _ _ (ofV va) (ofV vb) ka Aa na ca kb Ab nb cb v55 yc.heap.size hBv55.size (RV.ty (RVB.below ra.out hBv55)) (RV.ty (RVB.below rb.out hBv55))
          rw [bM.out] at CJ
          refine CJ.mono ?_
          clear CJ
          rintro e v56 ⟨Am, nm, cm, rfl, hNm, hbv56⟩
          dsimp only
          have hBv56 := hBv55.trans (hbv56.mono hBv55.size)
          have hsv56 := hbv56.size
          replace hC9 := hC9.kept hbv56
          replace hC8 := hC8.kept hbv56
          replace hRj := RV.at_ hRj (fun b h => by rcases h with h | h <;> omega) hbv56
          have hRm := hNm
          clear hNm
          refine hK.out _ _ ?_ (fun hHeld => ?_)
          ·
           (try dsimp only)
           exact mkS.out _ hBv56
          clear hK K
          try simp only [Act.put, List.getElem_toArray, List.getElem_cons_zero, List.getElem_cons_succ, List.setIfInBounds_toArray, List.set_cons_zero, List.set_cons_succ]
          refine wpAnyH_ready (rs := [8]) (by kernel_rfl) (by simp) ?_
          refine AllReadyH.cons rfl (fun K hK => ?_) ?_
          ·
           have k0 := hC8.cell 0 _ rfl
           have k1 := hC8.cell 1 _ rfl
           have kf := hC8.fr
           go_simp
           have hsz_ : ((v56.setCell ⟨v44.heap.size, 0, none⟩ (.int .i64 ((VT.join va vb).kind : Int))).setCell ⟨v44.heap.size, 1, none⟩ (.slice Aj nj cj)).heap.size = v56.heap.size := by simp [World.setCell]
           have hBn := (hBv56.setCell (p := ⟨v44.heap.size, 0, none⟩) (by show yc.heap.size ≤ v44.heap.size; omega) (.int .i64 ((VT.join va vb).kind : Int))).setCell (p := ⟨v44.heap.size, 1, none⟩) (by show yc.heap.size ≤ v44.heap.size; omega) (.slice Aj nj cj)
           replace hC9 := cells_back (b4 := v44.heap.size) (.int .i64 ((VT.join va vb).kind : Int)) (.slice Aj nj cj) hC9 (by omega)
           replace hC8 := (hC8.set 0 (.int .i64 ((VT.join va vb).kind : Int))).set 1 (.slice Aj nj cj)
           replace hRj := RV.set2 (g := v44.heap.size) (.int .i64 ((VT.join va vb).kind : Int)) (.slice Aj nj cj) (fun b h => by rcases h with h | h <;> omega) hRj
           replace hRm := RV.set2 (g := v44.heap.size) (.int .i64 ((VT.join va vb).kind : Int)) (.slice Aj nj cj) (fun b h => by rcases h with h | h <;> omega) hRm
           generalize hx_ : World.setCell (World.setCell _ _ _) _ _ = v57 at hsz_ hBn hC8 hC9 hRj hRm ⊢
           clear hx_ k0 k1 kf
           have hBv57 := hBn
           have hsv57 : v56.heap.size ≤ v57.heap.size := by rw [hsz_]; exact Nat.le_refl _
           clear hsz_ hBn
           refine hK.out _ _ ?_ (fun hHeld => ?_)
           ·
            (try dsimp only)
            exact mkS.out _ hBv57
           clear hK K
           try simp only [Act.put, List.getElem_toArray, List.getElem_cons_zero, List.getElem_cons_succ, List.setIfInBounds_toArray, List.set_cons_zero, List.set_cons_succ]
           refine wpAnyH_ready (rs := [9]) (by kernel_rfl) (by simp) ?_
           refine AllReadyH.cons rfl (fun K hK => ?_) ?_
           ·
            have k0 := hC9.cell 0 _ rfl
            have k1 := hC9.cell 1 _ rfl
            have kf := hC9.fr
            go_simp
            have hsz_ : ((v57.setCell ⟨d0.heap.size, 0, none⟩ (.int .i64 ((VT.meet va vb).kind : Int))).setCell ⟨d0.heap.size, 1, none⟩ (.slice Am nm cm)).heap.size = v57.heap.size := by simp [World.setCell]
            have hBn := (hBv57.setCell (p := ⟨d0.heap.size, 0, none⟩) (by show yc.heap.size ≤ d0.heap.size; omega) (.int .i64 ((VT.meet va vb).kind : Int))).setCell (p := ⟨d0.heap.size, 1, none⟩) (by show yc.heap.size ≤ d0.heap.size; omega) (.slice Am nm cm)
            replace hC8 := cells_back (b4 := d0.heap.size) (.int .i64 ((VT.meet va vb).kind : Int)) (.slice Am nm cm) hC8 (by omega)
            replace hC9 := (hC9.set 0 (.int .i64 ((VT.meet va vb).kind : Int))).set 1 (.slice Am nm cm)
            replace hRj := RV.set2 (g := d0.heap.size) (.int .i64 ((VT.meet va vb).kind : Int)) (.slice Am nm cm) (fun b h => by rcases h with h | h <;> omega) hRj
            replace hRm := RV.set2 (g := d0.heap.size) (.int .i64 ((VT.meet va vb).kind : Int)) (.slice Am nm cm) (fun b h => by rcases h with h | h <;> omega) hRm
            generalize hx_ : World.setCell (World.setCell _ _ _) _ _ = v58 at hsz_ hBn hC8 hC9 hRj hRm ⊢
            clear hx_ k0 k1 kf
            have hBv58 := hBn
            have hsv58 : v57.heap.size ≤ v58.heap.size := by rw [hsz_]; exact Nat.le_refl _
            clear hsz_ hBn
            refine hK.out _ _ ?_ (fun hHeld => ?_)
            ·
             (try dsimp only)
             exact mkS.out _ hBv58
            clear hK K
            try simp only [Act.put, List.getElem_toArray, List.getElem_cons_zero, List.getElem_cons_succ, List.setIfInBounds_toArray, List.set_cons_zero, List.set_cons_succ]
            refine wpAnyH_done (by kernel_rfl) ?_ _
            clear hHeld
            repeat' ((fail_if_success at_builtin); (first | go_skip | go_guarded | go_step))
            go_meet
            case rel => exact ⟨_, _, _, _, _, _, _, _, _, rfl, rfl, rfl, hC8, hC9, hRj.imp (fun b h => by rcases h with h | h <;> omega), hRm.imp (fun b h => by rcases h with h | h <;> omega), hBv58⟩
           exact AllReadyH.nil
          exact AllReadyH.nil
         exact AllReadyH.nil
        exact AllReadyH.nil
       exact AllReadyH.nil
      exact AllReadyH.nil
     case rest => as_aux_lemma =>
      obtain ⟨wx2, pj, pm, Aj, nj, cj, Am, nm, cm, hwq, rfl, rfl, hCj, hCm, hRj, hRm, hbx4⟩ := hcut
      subst hwq
      have ra2 := Lib.hid (RVB.at_ ra.out hbx4)
      have rb2 := Lib.hid (RVB.at_ rb.out hbx4)
      have rc2 := Lib.hid (RVB.at_ rc.out hbx4)
      have rv2 := Lib.hid (RVl.at_ rv.out hbx4)
      clear ra rb rc rv bJ bM
      replace hRj := Lib.hid hRj
      replace hRm := Lib.hid hRm
      have hk4 := hR4.kept hbx4
      clear c0_0 c0_1 cf0 c1_0 c1_1 cf1 c2_0 c2_1 cf2 c3_0 c3_1 c3_2 c3_3 c3_4 c3_5 cf3 hR4
      have hR21 : RdB w wx2 [(pj, [.int .i64 ((VT.join va vb).kind : Int), .slice Aj nj cj]), (pm, [.int .i64 ((VT.meet va vb).kind : Int), .slice Am nm cm]), (pa, [.int .i64 ka, .slice Aa na ca]), (pb, [.int .i64 kb, .slice Ab nb cb]), (pc, [.int .i64 kc, .slice Ac nc cc]), (w.heap.size + 1, [.int .i64 k, .bool b9, .int .i64 i, .string s, .slice A n c, .slice A2 n2 c2])] := (hk4.push hCm).push hCj
      have c0_0 := hR21.c 0 0
      have c0_1 := hR21.c 0 1
      have cf0 := hR21.fr 0
      have c1_0 := hR21.c 1 0
      have c1_1 := hR21.c 1 1
      have cf1 := hR21.fr 1
      have c2_0 := hR21.c 2 0
      have c2_1 := hR21.c 2 1
      have cf2 := hR21.fr 2
      have c3_0 := hR21.c 3 0
      have c3_1 := hR21.c 3 1
      have cf3 := hR21.fr 3
      have c4_0 := hR21.c 4 0
      have c4_1 := hR21.c 4 1
      have cf4 := hR21.fr 4
      have c5_0 := hR21.c 5 0
      have c5_1 := hR21.c 5 1
      have c5_2 := hR21.c 5 2
      have c5_3 := hR21.c 5 3
      have c5_4 := hR21.c 5 4
      have c5_5 := hR21.c 5 5
      have cf5 := hR21.fr 5
      clear hk4 hCj hCm hbx4
      have oj := VT.join_ok hoa hob
      have om := VT.meet_ok hoa hob
      have dj := join_dep hda hdb
      have dm := meet_dep hda hdb
      go_upto_region 5 with (fail)
      have hS0 : (Below wx2.heap.size wx2 wx2 ∧ wx2.cell? ⟨pj, 0, none⟩ = some (.int .i64 ((VT.join va vb).kind : Int)) ∧ wx2.cell? ⟨pj, 1, none⟩ = some (.slice Aj nj cj) ∧ wx2.cell? ⟨pm, 0, none⟩ = some (.int .i64 ((VT.meet va vb).kind : Int)) ∧ wx2.cell? ⟨pm, 1, none⟩ = some (.slice Am nm cm) ∧ wx2.cell? ⟨pa, 0, none⟩ = some (.int .i64 ka) ∧ wx2.cell? ⟨pa, 1, none⟩ = some (.slice Aa na ca) ∧ wx2.cell? ⟨pb, 0, none⟩ = some (.int .i64 kb) ∧ wx2.cell? ⟨pb, 1, none⟩ = some (.slice Ab nb cb) ∧ wx2.cell? ⟨pc, 0, none⟩ = some (.int .i64 kc) ∧ wx2.cell? ⟨pc, 1, none⟩ = some (.slice Ac nc cc) ∧ wx2.cell? ⟨w.heap.size + 1, 0, none⟩ = some (.int .i64 k) ∧ wx2.cell? ⟨w.heap.size + 1, 1, none⟩ = some (.bool b9) ∧ wx2.cell? ⟨w.heap.size + 1, 2, none⟩ = some (.int .i64 i) ∧ wx2.cell? ⟨w.heap.size + 1, 3, none⟩ = some (.string s) ∧ wx2.cell? ⟨w.heap.size + 1, 4, none⟩ = some (.slice A n c) ∧ wx2.cell? ⟨w.heap.size + 1, 5, none⟩ = some (.slice A2 n2 c2)) := ⟨Below.refl _ _, hR21.c 0 0, hR21.c 0 1, hR21.c 1 0, hR21.c 1 1, hR21.c 2 0, hR21.c 2 1, hR21.c 3 0, hR21.c 3 1, hR21.c 4 0, hR21.c 4 1, hR21.c 5 0, hR21.c 5 1, hR21.c 5 2, hR21.c 5 3, hR21.c 5 4, hR21.c 5 5⟩
      have keepS : ∀ v1 v2 : World, (Below wx2.heap.size wx2 v1 ∧ v1.cell? ⟨pj, 0, none⟩ = some (.int .i64 ((VT.join va vb).kind : Int)) ∧ v1.cell? ⟨pj, 1, none⟩ = some (.slice Aj nj cj) ∧ v1.cell? ⟨pm, 0, none⟩ = some (.int .i64 ((VT.meet va vb).kind : Int)) ∧ v1.cell? ⟨pm, 1, none⟩ = some (.slice Am nm cm) ∧ v1.cell? ⟨pa, 0, none⟩ = some (.int .i64 ka) ∧ v1.cell? ⟨pa, 1, none⟩ = some (.slice Aa na ca) ∧ v1.cell? ⟨pb, 0, none⟩ = some (.int .i64 kb) ∧ v1.cell? ⟨pb, 1, none⟩ = some (.slice Ab nb cb) ∧ v1.cell? ⟨pc, 0, none⟩ = some (.int .i64 kc) ∧ v1.cell? ⟨pc, 1, none⟩ = some (.slice Ac nc cc) ∧ v1.cell? ⟨w.heap.size + 1, 0, none⟩ = some (.int .i64 k) ∧ v1.cell? ⟨w.heap.size + 1, 1, none⟩ = some (.bool b9) ∧ v1.cell? ⟨w.heap.size + 1, 2, none⟩ = some (.int .i64 i) ∧ v1.cell? ⟨w.heap.size + 1, 3, none⟩ = some (.string s) ∧ v1.cell? ⟨w.heap.size + 1, 4, none⟩ = some (.slice A n c) ∧ v1.cell? ⟨w.heap.size + 1, 5, none⟩ = some (.slice A2 n2 c2)) → Below v1.heap.size v1 v2 → (Below wx2.heap.size wx2 v2 ∧ v2.cell? ⟨pj, 0, none⟩ = some (.int .i64 ((VT.join va vb).kind : Int)) ∧ v2.cell? ⟨pj, 1, none⟩ = some (.slice Aj nj cj) ∧ v2.cell? ⟨pm, 0, none⟩ = some (.int .i64 ((VT.meet va vb).kind : Int)) ∧ v2.cell? ⟨pm, 1, none⟩ = some (.slice Am nm cm) ∧ v2.cell? ⟨pa, 0, none⟩ = some (.int .i64 ka) ∧ v2.cell? ⟨pa, 1, none⟩ = some (.slice Aa na ca) ∧ v2.cell? ⟨pb, 0, none⟩ = some (.int .i64 kb) ∧ v2.cell? ⟨pb, 1, none⟩ = some (.slice Ab nb cb) ∧ v2.cell? ⟨pc, 0, none⟩ = some (.int .i64 kc) ∧ v2.cell? ⟨pc, 1, none⟩ = some (.slice Ac nc cc) ∧ v2.cell? ⟨w.heap.size + 1, 0, none⟩ = some (.int .i64 k) ∧ v2.cell? ⟨w.heap.size + 1, 1, none⟩ = some (.bool b9) ∧ v2.cell? ⟨w.heap.size + 1, 2, none⟩ = some (.int .i64 i) ∧ v2.cell? ⟨w.heap.size + 1, 3, none⟩ = some (.string s) ∧ v2.cell? ⟨w.heap.size + 1, 4, none⟩ = some (.slice A n c) ∧ v2.cell? ⟨w.heap.size + 1, 5, none⟩ = some (.slice A2 n2 c2)) := fun v1 v2 h hb => ⟨h.1.trans (hb.mono h.1.size), (hR21.kept (h.1.trans (hb.mono h.1.size))).c 0 0, (hR21.kept (h.1.trans (hb.mono h.1.size))).c 0 1, (hR21.kept (h.1.trans (hb.mono h.1.size))).c 1 0, (hR21.kept (h.1.trans (hb.mono h.1.size))).c 1 1, (hR21.kept (h.1.trans (hb.mono h.1.size))).c 2 0, (hR21.kept (h.1.trans (hb.mono h.1.size))).c 2 1, (hR21.kept (h.1.trans (hb.mono h.1.size))).c 3 0, (hR21.kept (h.1.trans (hb.mono h.1.size))).c 3 1, (hR21.kept (h.1.trans (hb.mono h.1.size))).c 4 0, (hR21.kept (h.1.trans (hb.mono h.1.size))).c 4 1, (hR21.kept (h.1.trans (hb.mono h.1.size))).c 5 0, (hR21.kept (h.1.trans (hb.mono h.1.size))).c 5 1, (hR21.kept (h.1.trans (hb.mono h.1.size))).c 5 2, (hR21.kept (h.1.trans (hb.mono h.1.size))).c 5 3, (hR21.kept (h.1.trans (hb.mono h.1.size))).c 5 4, (hR21.kept (h.1.trans (hb.mono h.1.size))).c 5 5⟩
      have hS1 : (Below wx2.heap.size wx2 wx2.drew ∧ wx2.drew.cell? ⟨pj, 0, none⟩ = some (.int .i64 ((VT.join va vb).kind : Int)) ∧ wx2.drew.cell? ⟨pj, 1, none⟩ = some (.slice Aj nj cj) ∧ wx2.drew.cell? ⟨pm, 0, none⟩ = some (.int .i64 ((VT.meet va vb).kind : Int)) ∧ wx2.drew.cell? ⟨pm, 1, none⟩ = some (.slice Am nm cm) ∧ wx2.drew.cell? ⟨pa, 0, none⟩ = some (.int .i64 ka) ∧ wx2.drew.cell? ⟨pa, 1, none⟩ = some (.slice Aa na ca) ∧ wx2.drew.cell? ⟨pb, 0, none⟩ = some (.int .i64 kb) ∧ wx2.drew.cell? ⟨pb, 1, none⟩ = some (.slice Ab nb cb) ∧ wx2.drew.cell? ⟨pc, 0, none⟩ = some (.int .i64 kc) ∧ wx2.drew.cell? ⟨pc, 1, none⟩ = some (.slice Ac nc cc) ∧ wx2.drew.cell? ⟨w.heap.size + 1, 0, none⟩ = some (.int .i64 k) ∧ wx2.drew.cell? ⟨w.heap.size + 1, 1, none⟩ = some (.bool b9) ∧ wx2.drew.cell? ⟨w.heap.size + 1, 2, none⟩ = some (.int .i64 i) ∧ wx2.drew.cell? ⟨w.heap.size + 1, 3, none⟩ = some (.string s) ∧ wx2.drew.cell? ⟨w.heap.size + 1, 4, none⟩ = some (.slice A n c) ∧ wx2.drew.cell? ⟨w.heap.size + 1, 5, none⟩ = some (.slice A2 n2 c2)) := keepS _ _ hS0 ((Below.refl _ _).drew)
      replace keepS := Lib.hid keepS
      clear hS0
      refine wp_region_held_drew (S := fun w' => Below wx2.heap.size wx2 w' ∧ w'.cell? ⟨pj, 0, none⟩ = some (.int .i64 ((VT.join va vb).kind : Int)) ∧ w'.cell? ⟨pj, 1, none⟩ = some (.slice Aj nj cj) ∧ w'.cell? ⟨pm, 0, none⟩ = some (.int .i64 ((VT.meet va vb).kind : Int)) ∧ w'.cell? ⟨pm, 1, none⟩ = some (.slice Am nm cm) ∧ w'.cell? ⟨pa, 0, none⟩ = some (.int .i64 ka) ∧ w'.cell? ⟨pa, 1, none⟩ = some (.slice Aa na ca) ∧ w'.cell? ⟨pb, 0, none⟩ = some (.int .i64 kb) ∧ w'.cell? ⟨pb, 1, none⟩ = some (.slice Ab nb cb) ∧ w'.cell? ⟨pc, 0, none⟩ = some (.int .i64 kc) ∧ w'.cell? ⟨pc, 1, none⟩ = some (.slice Ac nc cc) ∧ w'.cell? ⟨w.heap.size + 1, 0, none⟩ = some (.int .i64 k) ∧ w'.cell? ⟨w.heap.size + 1, 1, none⟩ = some (.bool b9) ∧ w'.cell? ⟨w.heap.size + 1, 2, none⟩ = some (.int .i64 i) ∧ w'.cell? ⟨w.heap.size + 1, 3, none⟩ = some (.string s) ∧ w'.cell? ⟨w.heap.size + 1, 4, none⟩ = some (.slice A n c) ∧ w'.cell? ⟨w.heap.size + 1, 5, none⟩ = some (.slice A2 n2 c2)) (by kernel_rfl) ?_ (fun hHeld => ?_)
      ·
       (try dsimp only)
       exact hS1
      refine tkY 0 (v := ?v55) rfl (.inl ⟨by rfl, ?hy55⟩) ?hr55
      case hy55 => (intro w hSw; (try dsimp only at hSw); go_simp; try with_reducible rfl)
      simp only [Act.put, List.getElem_toArray, List.getElem_cons_zero, List.getElem_cons_succ, List.setIfInBounds_toArray, List.set_cons_zero, List.set_cons_succ]
      refine tkY 1 (v := ?v56) rfl (.inl ⟨by rfl, ?hy56⟩) ?hr56
      case hy56 => (intro w hSw; (try dsimp only at hSw); go_simp; try with_reducible rfl)
      simp only [Act.put, List.getElem_toArray, List.getElem_cons_zero, List.getElem_cons_succ, List.setIfInBounds_toArray, List.set_cons_zero, List.set_cons_succ]
      refine tkY 2 (v := ?v57) rfl (.inl ⟨by rfl, ?hy57⟩) ?hr57
      case hy57 => (intro w hSw; (try dsimp only at hSw); go_simp; try with_reducible rfl)
      simp only [Act.put, List.getElem_toArray, List.getElem_cons_zero, List.getElem_cons_succ, List.setIfInBounds_toArray, List.set_cons_zero, List.set_cons_succ]
      refine wpAnyH_ready (rs := [3]) (by kernel_rfl) (by simp) ?_
      refine AllReadyH.cons rfl (fun K hK => ?_) AllReadyH.nil
      go_simp
      go_at_call 21
      have CJ := tjoin_any _ _ (ofV (vb)) (ofV (va)) kb Ab nb cb ka Aa na ca _ (RV.ty (RVB.at_ rb2.out hHeld.1)) (RV.ty (RVB.at_ ra2.out hHeld.1))
      rw [bound_of hob hoa hdb hda] at CJ
      refine CJ.mono ?_
      clear CJ
      rintro e r5_3 ⟨Ax1, nx1, cx1, rfl, hNx1, hb5_3⟩
      dsimp only
      have hbq := hb5_3
      refine hK.out _ _ ?_ (fun hHeld => ?_)
      ·
       (try dsimp only)
       exact keepS.out _ _ hHeld hbq
      clear hK K
      try simp only [Act.put, List.getElem_toArray, List.getElem_cons_zero, List.getElem_cons_succ, List.setIfInBounds_toArray, List.set_cons_zero, List.set_cons_succ]
      refine wpAnyH_ready (rs := [4]) (by kernel_rfl) (by simp) ?_
      refine AllReadyH.cons rfl (fun K hK => ?_) AllReadyH.nil
      go_simp
      go_at_call 15
      have CJ := same_any (VT.join va vb) (VT.join (vb) (va)) ((VT.join va vb).kind : Int) Aj nj cj ((VT.join (vb) (va)).kind : Int) Ax1 nx1 cx1 _ oj (VT.join_ok hob hoa) (RVB.at_ hRj.out hHeld.1) (old_to hNx1 hb5_3.size)
      rw [decide_eq_true (VT.join_comm hoa hob)] at CJ
      refine CJ.mono ?_
      clear CJ
      rintro e r5_4 ⟨rfl, hb5_4⟩
      dsimp only
      have hbq := hb5_4
      refine hK.out _ _ ?_ (fun hHeld => ?_)
      ·
       (try dsimp only)
       exact keepS.out _ _ hHeld hbq
      clear hK K
      try simp only [Act.put, List.getElem_toArray, List.getElem_cons_zero, List.getElem_cons_succ, List.setIfInBounds_toArray, List.set_cons_zero, List.set_cons_succ]
      refine tkY 5 (v := ?v58) rfl (.inl ⟨by rfl, ?hy58⟩) ?hr58
      case hy58 => (intro w hSw; (try dsimp only at hSw); go_simp; try with_reducible rfl)
      simp only [Act.put, List.getElem_toArray, List.getElem_cons_zero, List.getElem_cons_succ, List.setIfInBounds_toArray, List.set_cons_zero, List.set_cons_succ]
      refine tkY 6 (v := ?v59) rfl (.inl ⟨by rfl, ?hy59⟩) ?hr59
      case hy59 => (intro w hSw; (try dsimp only at hSw); go_simp; try with_reducible rfl)
      simp only [Act.put, List.getElem_toArray, List.getElem_cons_zero, List.getElem_cons_succ, List.setIfInBounds_toArray, List.set_cons_zero, List.set_cons_succ]
      refine tkY 7 (v := ?v60) rfl (.inl ⟨by rfl, ?hy60⟩) ?hr60
      case hy60 => (intro w hSw; (try dsimp only at hSw); go_simp; try with_reducible rfl)
      simp only [Act.put, List.getElem_toArray, List.getElem_cons_zero, List.getElem_cons_succ, List.setIfInBounds_toArray, List.set_cons_zero, List.set_cons_succ]
      refine tkY 8 (v := ?v61) rfl (.inl ⟨by rfl, ?hy61⟩) ?hr61
      case hy61 => (intro w hSw; (try dsimp only at hSw); go_simp; try with_reducible rfl)
      simp only [Act.put, List.getElem_toArray, List.getElem_cons_zero, List.getElem_cons_succ, List.setIfInBounds_toArray, List.set_cons_zero, List.set_cons_succ]
      refine tkY 9 (v := ?v62) rfl (.inl ⟨by rfl, ?hy62⟩) ?hr62
      case hy62 => (intro w hSw; (try dsimp only at hSw); go_simp; try with_reducible rfl)
      simp only [Act.put, List.getElem_toArray, List.getElem_cons_zero, List.getElem_cons_succ, List.setIfInBounds_toArray, List.set_cons_zero, List.set_cons_succ]
      refine wpAnyH_ready (rs := [10]) (by kernel_rfl) (by simp) ?_
      refine AllReadyH.cons rfl (fun K hK => ?_) AllReadyH.nil
      go_simp
      go_at_call 23
      have CJ := tmeet_any _ _ (ofV (vb)) (ofV (va)) kb Ab nb cb ka Aa na ca _ (RV.ty (RVB.at_ rb2.out hHeld.1)) (RV.ty (RVB.at_ ra2.out hHeld.1))
      rw [bound_of hob hoa hdb hda] at CJ
      refine CJ.mono ?_
      clear CJ
      rintro e r5_10 ⟨Ax2, nx2, cx2, rfl, hNx2, hb5_10⟩
      dsimp only
      have hbq := hb5_10
      refine hK.out _ _ ?_ (fun hHeld => ?_)
      ·
       (try dsimp only)
       exact keepS.out _ _ hHeld hbq
      clear hK K
      try simp only [Act.put, List.getElem_toArray, List.getElem_cons_zero, List.getElem_cons_succ, List.setIfInBounds_toArray, List.set_cons_zero, List.set_cons_succ]
      refine wpAnyH_ready (rs := [11]) (by kernel_rfl) (by simp) ?_
      refine AllReadyH.cons rfl (fun K hK => ?_) AllReadyH.nil
      go_simp
      go_at_call 15
      have CJ := same_any (VT.meet va vb) (VT.meet (vb) (va)) ((VT.meet va vb).kind : Int) Am nm cm ((VT.meet (vb) (va)).kind : Int) Ax2 nx2 cx2 _ om (VT.meet_ok hob hoa) (RVB.at_ hRm.out hHeld.1) (old_to hNx2 hb5_10.size)
      rw [decide_eq_true (VT.meet_comm hoa hob)] at CJ
      refine CJ.mono ?_
      clear CJ
      rintro e r5_11 ⟨rfl, hb5_11⟩
      dsimp only
      have hbq := hb5_11
      refine hK.out _ _ ?_ (fun hHeld => ?_)
      ·
       (try dsimp only)
       exact keepS.out _ _ hHeld hbq
      clear hK K
      try simp only [Act.put, List.getElem_toArray, List.getElem_cons_zero, List.getElem_cons_succ, List.setIfInBounds_toArray, List.set_cons_zero, List.set_cons_succ]
      refine tkY 12 (v := ?v63) rfl (.inl ⟨by rfl, ?hy63⟩) ?hr63
      case hy63 => (intro w hSw; (try dsimp only at hSw); go_simp; try with_reducible rfl)
      simp only [Act.put, List.getElem_toArray, List.getElem_cons_zero, List.getElem_cons_succ, List.setIfInBounds_toArray, List.set_cons_zero, List.set_cons_succ]
      refine tkY 13 (v := ?v64) rfl (.inl ⟨by rfl, ?hy64⟩) ?hr64
      case hy64 => (intro w hSw; (try dsimp only at hSw); go_simp; try with_reducible rfl)
      simp only [Act.put, List.getElem_toArray, List.getElem_cons_zero, List.getElem_cons_succ, List.setIfInBounds_toArray, List.set_cons_zero, List.set_cons_succ]
      refine wpAnyH_done (by kernel_rfl) ?_ _
      have hbW := hHeld.1
      clear hHeld hS1 keepS
      have hR22 : RdB w r5_11 [(pj, [.int .i64 ((VT.join va vb).kind : Int), .slice Aj nj cj]), (pm, [.int .i64 ((VT.meet va vb).kind : Int), .slice Am nm cm]), (pa, [.int .i64 ka, .slice Aa na ca]), (pb, [.int .i64 kb, .slice Ab nb cb]), (pc, [.int .i64 kc, .slice Ac nc cc]), (w.heap.size + 1, [.int .i64 k, .bool b9, .int .i64 i, .string s, .slice A n c, .slice A2 n2 c2])] := hR21.kept hbW
      clear c0_0 c0_1 cf0 c1_0 c1_1 cf1 c2_0 c2_1 cf2 c3_0 c3_1 cf3 c4_0 c4_1 cf4 c5_0 c5_1 c5_2 c5_3 c5_4 c5_5 cf5 hR21
      have c0_0 := hR22.c 0 0
      have c0_1 := hR22.c 0 1
      have cf0 := hR22.fr 0
      have c1_0 := hR22.c 1 0
      have c1_1 := hR22.c 1 1
      have cf1 := hR22.fr 1
      have c2_0 := hR22.c 2 0
      have c2_1 := hR22.c 2 1
      have cf2 := hR22.fr 2
      have c3_0 := hR22.c 3 0
      have c3_1 := hR22.c 3 1
      have cf3 := hR22.fr 3
      have c4_0 := hR22.c 4 0
      have c4_1 := hR22.c 4 1
      have cf4 := hR22.fr 4
      have c5_0 := hR22.c 5 0
      have c5_1 := hR22.c 5 1
      have c5_2 := hR22.c 5 2
      have c5_3 := hR22.c 5 3
      have c5_4 := hR22.c 5 4
      have c5_5 := hR22.c 5 5
      have cf5 := hR22.fr 5
      replace ra2 := Lib.hid (RVB.at_ ra2.out hbW)
      replace rb2 := Lib.hid (RVB.at_ rb2.out hbW)
      replace rc2 := Lib.hid (RVB.at_ rc2.out hbW)
      replace hRj := Lib.hid (RVB.at_ hRj.out hbW)
      replace hRm := Lib.hid (RVB.at_ hRm.out hbW)
      replace rv2 := Lib.hid (RVl.at_ rv2.out hbW)
      clear hbW
      as_aux_lemma =>
       go_upto_region 7 with (fail)
       have hS0 : (Below r5_11.heap.size r5_11 r5_11 ∧ r5_11.cell? ⟨pj, 0, none⟩ = some (.int .i64 ((VT.join va vb).kind : Int)) ∧ r5_11.cell? ⟨pj, 1, none⟩ = some (.slice Aj nj cj) ∧ r5_11.cell? ⟨pm, 0, none⟩ = some (.int .i64 ((VT.meet va vb).kind : Int)) ∧ r5_11.cell? ⟨pm, 1, none⟩ = some (.slice Am nm cm) ∧ r5_11.cell? ⟨pa, 0, none⟩ = some (.int .i64 ka) ∧ r5_11.cell? ⟨pa, 1, none⟩ = some (.slice Aa na ca) ∧ r5_11.cell? ⟨pb, 0, none⟩ = some (.int .i64 kb) ∧ r5_11.cell? ⟨pb, 1, none⟩ = some (.slice Ab nb cb) ∧ r5_11.cell? ⟨pc, 0, none⟩ = some (.int .i64 kc) ∧ r5_11.cell? ⟨pc, 1, none⟩ = some (.slice Ac nc cc) ∧ r5_11.cell? ⟨w.heap.size + 1, 0, none⟩ = some (.int .i64 k) ∧ r5_11.cell? ⟨w.heap.size + 1, 1, none⟩ = some (.bool b9) ∧ r5_11.cell? ⟨w.heap.size + 1, 2, none⟩ = some (.int .i64 i) ∧ r5_11.cell? ⟨w.heap.size + 1, 3, none⟩ = some (.string s) ∧ r5_11.cell? ⟨w.heap.size + 1, 4, none⟩ = some (.slice A n c) ∧ r5_11.cell? ⟨w.heap.size + 1, 5, none⟩ = some (.slice A2 n2 c2)) := ⟨Below.refl _ _, hR22.c 0 0, hR22.c 0 1, hR22.c 1 0, hR22.c 1 1, hR22.c 2 0, hR22.c 2 1, hR22.c 3 0, hR22.c 3 1, hR22.c 4 0, hR22.c 4 1, hR22.c 5 0, hR22.c 5 1, hR22.c 5 2, hR22.c 5 3, hR22.c 5 4, hR22.c 5 5⟩
       have keepS : ∀ v1 v2 : World, (Below r5_11.heap.size r5_11 v1 ∧ v1.cell? ⟨pj, 0, none⟩ = some (.int .i64 ((VT.join va vb).kind : Int)) ∧ v1.cell? ⟨pj, 1, none⟩ = some (.slice Aj nj cj) ∧ v1.cell? ⟨pm, 0, none⟩ = some (.int .i64 ((VT.meet va vb).kind : Int)) ∧ v1.cell? ⟨pm, 1, none⟩ = some (.slice Am nm cm) ∧ v1.cell? ⟨pa, 0, none⟩ = some (.int .i64 ka) ∧ v1.cell? ⟨pa, 1, none⟩ = some (.slice Aa na ca) ∧ v1.cell? ⟨pb, 0, none⟩ = some (.int .i64 kb) ∧ v1.cell? ⟨pb, 1, none⟩ = some (.slice Ab nb cb) ∧ v1.cell? ⟨pc, 0, none⟩ = some (.int .i64 kc) ∧ v1.cell? ⟨pc, 1, none⟩ = some (.slice Ac nc cc) ∧ v1.cell? ⟨w.heap.size + 1, 0, none⟩ = some (.int .i64 k) ∧ v1.cell? ⟨w.heap.size + 1, 1, none⟩ = some (.bool b9) ∧ v1.cell? ⟨w.heap.size + 1, 2, none⟩ = some (.int .i64 i) ∧ v1.cell? ⟨w.heap.size + 1, 3, none⟩ = some (.string s) ∧ v1.cell? ⟨w.heap.size + 1, 4, none⟩ = some (.slice A n c) ∧ v1.cell? ⟨w.heap.size + 1, 5, none⟩ = some (.slice A2 n2 c2)) → Below v1.heap.size v1 v2 → (Below r5_11.heap.size r5_11 v2 ∧ v2.cell? ⟨pj, 0, none⟩ = some (.int .i64 ((VT.join va vb).kind : Int)) ∧ v2.cell? ⟨pj, 1, none⟩ = some (.slice Aj nj cj) ∧ v2.cell? ⟨pm, 0, none⟩ = some (.int .i64 ((VT.meet va vb).kind : Int)) ∧ v2.cell? ⟨pm, 1, none⟩ = some (.slice Am nm cm) ∧ v2.cell? ⟨pa, 0, none⟩ = some (.int .i64 ka) ∧ v2.cell? ⟨pa, 1, none⟩ = some (.slice Aa na ca) ∧ v2.cell? ⟨pb, 0, none⟩ = some (.int .i64 kb) ∧ v2.cell? ⟨pb, 1, none⟩ = some (.slice Ab nb cb) ∧ v2.cell? ⟨pc, 0, none⟩ = some (.int .i64 kc) ∧ v2.cell? ⟨pc, 1, none⟩ = some (.slice Ac nc cc) ∧ v2.cell? ⟨w.heap.size + 1, 0, none⟩ = some (.int .i64 k) ∧ v2.cell? ⟨w.heap.size + 1, 1, none⟩ = some (.bool b9) ∧ v2.cell? ⟨w.heap.size + 1, 2, none⟩ = some (.int .i64 i) ∧ v2.cell? ⟨w.heap.size + 1, 3, none⟩ = some (.string s) ∧ v2.cell? ⟨w.heap.size + 1, 4, none⟩ = some (.slice A n c) ∧ v2.cell? ⟨w.heap.size + 1, 5, none⟩ = some (.slice A2 n2 c2)) := fun v1 v2 h hb => ⟨h.1.trans (hb.mono h.1.size), (hR22.kept (h.1.trans (hb.mono h.1.size))).c 0 0, (hR22.kept (h.1.trans (hb.mono h.1.size))).c 0 1, (hR22.kept (h.1.trans (hb.mono h.1.size))).c 1 0, (hR22.kept (h.1.trans (hb.mono h.1.size))).c 1 1, (hR22.kept (h.1.trans (hb.mono h.1.size))).c 2 0, (hR22.kept (h.1.trans (hb.mono h.1.size))).c 2 1, (hR22.kept (h.1.trans (hb.mono h.1.size))).c 3 0, (hR22.kept (h.1.trans (hb.mono h.1.size))).c 3 1, (hR22.kept (h.1.trans (hb.mono h.1.size))).c 4 0, (hR22.kept (h.1.trans (hb.mono h.1.size))).c 4 1, (hR22.kept (h.1.trans (hb.mono h.1.size))).c 5 0, (hR22.kept (h.1.trans (hb.mono h.1.size))).c 5 1, (hR22.kept (h.1.trans (hb.mono h.1.size))).c 5 2, (hR22.kept (h.1.trans (hb.mono h.1.size))).c 5 3, (hR22.kept (h.1.trans (hb.mono h.1.size))).c 5 4, (hR22.kept (h.1.trans (hb.mono h.1.size))).c 5 5⟩
       have hS1 : (Below r5_11.heap.size r5_11 r5_11.drew ∧ r5_11.drew.cell? ⟨pj, 0, none⟩ = some (.int .i64 ((VT.join va vb).kind : Int)) ∧ r5_11.drew.cell? ⟨pj, 1, none⟩ = some (.slice Aj nj cj) ∧ r5_11.drew.cell? ⟨pm, 0, none⟩ = some (.int .i64 ((VT.meet va vb).kind : Int)) ∧ r5_11.drew.cell? ⟨pm, 1, none⟩ = some (.slice Am nm cm) ∧ r5_11.drew.cell? ⟨pa, 0, none⟩ = some (.int .i64 ka) ∧ r5_11.drew.cell? ⟨pa, 1, none⟩ = some (.slice Aa na ca) ∧ r5_11.drew.cell? ⟨pb, 0, none⟩ = some (.int .i64 kb) ∧ r5_11.drew.cell? ⟨pb, 1, none⟩ = some (.slice Ab nb cb) ∧ r5_11.drew.cell? ⟨pc, 0, none⟩ = some (.int .i64 kc) ∧ r5_11.drew.cell? ⟨pc, 1, none⟩ = some (.slice Ac nc cc) ∧ r5_11.drew.cell? ⟨w.heap.size + 1, 0, none⟩ = some (.int .i64 k) ∧ r5_11.drew.cell? ⟨w.heap.size + 1, 1, none⟩ = some (.bool b9) ∧ r5_11.drew.cell? ⟨w.heap.size + 1, 2, none⟩ = some (.int .i64 i) ∧ r5_11.drew.cell? ⟨w.heap.size + 1, 3, none⟩ = some (.string s) ∧ r5_11.drew.cell? ⟨w.heap.size + 1, 4, none⟩ = some (.slice A n c) ∧ r5_11.drew.cell? ⟨w.heap.size + 1, 5, none⟩ = some (.slice A2 n2 c2)) := keepS _ _ hS0 ((Below.refl _ _).drew)
       replace keepS := Lib.hid keepS
       clear hS0
       refine wp_region_held_drew (S := fun w' => Below r5_11.heap.size r5_11 w' ∧ w'.cell? ⟨pj, 0, none⟩ = some (.int .i64 ((VT.join va vb).kind : Int)) ∧ w'.cell? ⟨pj, 1, none⟩ = some (.slice Aj nj cj) ∧ w'.cell? ⟨pm, 0, none⟩ = some (.int .i64 ((VT.meet va vb).kind : Int)) ∧ w'.cell? ⟨pm, 1, none⟩ = some (.slice Am nm cm) ∧ w'.cell? ⟨pa, 0, none⟩ = some (.int .i64 ka) ∧ w'.cell? ⟨pa, 1, none⟩ = some (.slice Aa na ca) ∧ w'.cell? ⟨pb, 0, none⟩ = some (.int .i64 kb) ∧ w'.cell? ⟨pb, 1, none⟩ = some (.slice Ab nb cb) ∧ w'.cell? ⟨pc, 0, none⟩ = some (.int .i64 kc) ∧ w'.cell? ⟨pc, 1, none⟩ = some (.slice Ac nc cc) ∧ w'.cell? ⟨w.heap.size + 1, 0, none⟩ = some (.int .i64 k) ∧ w'.cell? ⟨w.heap.size + 1, 1, none⟩ = some (.bool b9) ∧ w'.cell? ⟨w.heap.size + 1, 2, none⟩ = some (.int .i64 i) ∧ w'.cell? ⟨w.heap.size + 1, 3, none⟩ = some (.string s) ∧ w'.cell? ⟨w.heap.size + 1, 4, none⟩ = some (.slice A n c) ∧ w'.cell? ⟨w.heap.size + 1, 5, none⟩ = some (.slice A2 n2 c2)) (by kernel_rfl) ?_ (fun hHeld => ?_)
       ·
        (try dsimp only)
        exact hS1
       refine tkY 0 (v := ?v65) rfl (.inl ⟨by rfl, ?hy65⟩) ?hr65
       case hy65 => (intro w hSw; (try dsimp only at hSw); go_simp; try with_reducible rfl)
       simp only [Act.put, List.getElem_toArray, List.getElem_cons_zero, List.getElem_cons_succ, List.setIfInBounds_toArray, List.set_cons_zero, List.set_cons_succ]
       refine tkY 1 (v := ?v66) rfl (.inl ⟨by rfl, ?hy66⟩) ?hr66
       case hy66 => (intro w hSw; (try dsimp only at hSw); go_simp; try with_reducible rfl)
       simp only [Act.put, List.getElem_toArray, List.getElem_cons_zero, List.getElem_cons_succ, List.setIfInBounds_toArray, List.set_cons_zero, List.set_cons_succ]
       refine tkY 3 (v := ?v67) rfl (.inl ⟨by rfl, ?hy67⟩) ?hr67
       case hy67 => (intro w hSw; (try dsimp only at hSw); go_simp; try with_reducible rfl)
       simp only [Act.put, List.getElem_toArray, List.getElem_cons_zero, List.getElem_cons_succ, List.setIfInBounds_toArray, List.set_cons_zero, List.set_cons_succ]
       refine tkY 4 (v := ?v68) rfl (.inl ⟨by rfl, ?hy68⟩) ?hr68
       case hy68 => (intro w hSw; (try dsimp only at hSw); go_simp; try with_reducible rfl)
       simp only [Act.put, List.getElem_toArray, List.getElem_cons_zero, List.getElem_cons_succ, List.setIfInBounds_toArray, List.set_cons_zero, List.set_cons_succ]
       refine tkY 5 (v := ?v69) rfl (.inl ⟨by rfl, ?hy69⟩) ?hr69
       case hy69 => (intro w hSw; (try dsimp only at hSw); go_simp; try with_reducible rfl)
       simp only [Act.put, List.getElem_toArray, List.getElem_cons_zero, List.getElem_cons_succ, List.setIfInBounds_toArray, List.set_cons_zero, List.set_cons_succ]
       refine wpAnyH_ready (rs := [2]) (by kernel_rfl) (by simp) ?_
       refine AllReadyH.cons rfl (fun K hK => ?_) AllReadyH.nil
       go_simp
       go_at_call 21
       have CJ := tjoin_any _ _ (ofV (VT.join va vb)) (ofV (vc)) ((VT.join va vb).kind : Int) Aj nj cj kc Ac nc cc _ (RV.ty (RVB.at_ hRj.out hHeld.1)) (RV.ty (RVB.at_ rc2.out hHeld.1))
       rw [bound_of oj hoc dj hdc] at CJ
       refine CJ.mono ?_
       clear CJ
       rintro e r7_2 ⟨Ax3, nx3, cx3, rfl, hNx3, hb7_2⟩
       dsimp only
       have hbq := hb7_2
       refine hK.out _ _ ?_ (fun hHeld => ?_)
       ·
        (try dsimp only)
        exact keepS.out _ _ hHeld hbq
       clear hK K
       try simp only [Act.put, List.getElem_toArray, List.getElem_cons_zero, List.getElem_cons_succ, List.setIfInBounds_toArray, List.set_cons_zero, List.set_cons_succ]
       refine wpAnyH_ready (rs := [6]) (by kernel_rfl) (by simp) ?_
       refine AllReadyH.cons rfl (fun K hK => ?_) AllReadyH.nil
       go_simp
       go_at_call 21
       have CJ := tjoin_any _ _ (ofV (vb)) (ofV (vc)) kb Ab nb cb kc Ac nc cc _ (RV.ty (RVB.at_ rb2.out hHeld.1)) (RV.ty (RVB.at_ rc2.out hHeld.1))
       rw [bound_of hob hoc hdb hdc] at CJ
       refine CJ.mono ?_
       clear CJ
       rintro e r7_6 ⟨Ax4, nx4, cx4, rfl, hNx4, hb7_6⟩
       dsimp only
       have hbq := hb7_6
       refine hK.out _ _ ?_ (fun hHeld => ?_)
       ·
        (try dsimp only)
        exact keepS.out _ _ hHeld hbq
       clear hK K
       try simp only [Act.put, List.getElem_toArray, List.getElem_cons_zero, List.getElem_cons_succ, List.setIfInBounds_toArray, List.set_cons_zero, List.set_cons_succ]
       refine wpAnyH_ready (rs := [7]) (by kernel_rfl) (by simp) ?_
       refine AllReadyH.cons rfl (fun K hK => ?_) AllReadyH.nil
       go_simp
       go_at_call 21
       have CJ := tjoin_any _ _ (ofV (va)) (ofV (VT.join (vb) (vc))) ka Aa na ca ((VT.join (vb) (vc)).kind : Int) Ax4 nx4 cx4 _ (RV.ty (RVB.at_ ra2.out hHeld.1)) (RV.ty (old_to hNx4 hb7_6.size))
       rw [bound_of hoa (VT.join_ok hob hoc) hda (join_dep hdb hdc)] at CJ
       refine CJ.mono ?_
       clear CJ
       rintro e r7_7 ⟨Ax5, nx5, cx5, rfl, hNx5, hb7_7⟩
       dsimp only
       have hbq := hb7_7
       refine hK.out _ _ ?_ (fun hHeld => ?_)
       ·
        (try dsimp only)
        exact keepS.out _ _ hHeld hbq
       clear hK K
       try simp only [Act.put, List.getElem_toArray, List.getElem_cons_zero, List.getElem_cons_succ, List.setIfInBounds_toArray, List.set_cons_zero, List.set_cons_succ]
       refine wpAnyH_ready (rs := [8]) (by kernel_rfl) (by simp) ?_
       refine AllReadyH.cons rfl (fun K hK => ?_) AllReadyH.nil
       go_simp
       go_at_call 15
       have CJ := same_any (VT.join (VT.join va vb) (vc)) (VT.join (va) (VT.join (vb) (vc))) ((VT.join (VT.join va vb) (vc)).kind : Int) Ax3 nx3 cx3 ((VT.join (va) (VT.join (vb) (vc))).kind : Int) Ax5 nx5 cx5 _ (VT.join_ok oj hoc) (VT.join_ok hoa (VT.join_ok hob hoc)) (RVB.at_ (RVB.at_ (old_to hNx3 hb7_2.size) hb7_6) hb7_7) (old_to hNx5 hb7_7.size)
       rw [decide_eq_true (VT.join_assoc va vb vc)] at CJ
       refine CJ.mono ?_
       clear CJ
       rintro e r7_8 ⟨rfl, hb7_8⟩
       dsimp only
       have hbq := hb7_8
       refine hK.out _ _ ?_ (fun hHeld => ?_)
       ·
        (try dsimp only)
        exact keepS.out _ _ hHeld hbq
       clear hK K
       try simp only [Act.put, List.getElem_toArray, List.getElem_cons_zero, List.getElem_cons_succ, List.setIfInBounds_toArray, List.set_cons_zero, List.set_cons_succ]
       refine tkY 9 (v := ?v70) rfl (.inl ⟨by rfl, ?hy70⟩) ?hr70
       case hy70 => (intro w hSw; (try dsimp only at hSw); go_simp; try with_reducible rfl)
       simp only [Act.put, List.getElem_toArray, List.getElem_cons_zero, List.getElem_cons_succ, List.setIfInBounds_toArray, List.set_cons_zero, List.set_cons_succ]
       refine tkY 10 (v := ?v71) rfl (.inl ⟨by rfl, ?hy71⟩) ?hr71
       case hy71 => (intro w hSw; (try dsimp only at hSw); go_simp; try with_reducible rfl)
       simp only [Act.put, List.getElem_toArray, List.getElem_cons_zero, List.getElem_cons_succ, List.setIfInBounds_toArray, List.set_cons_zero, List.set_cons_succ]
       refine tkY 11 (v := ?v72) rfl (.inl ⟨by rfl, ?hy72⟩) ?hr72
       case hy72 => (intro w hSw; (try dsimp only at hSw); go_simp; try with_reducible rfl)
       simp only [Act.put, List.getElem_toArray, List.getElem_cons_zero, List.getElem_cons_succ, List.setIfInBounds_toArray, List.set_cons_zero, List.set_cons_succ]
       refine tkY 12 (v := ?v73) rfl (.inl ⟨by rfl, ?hy73⟩) ?hr73
       case hy73 => (intro w hSw; (try dsimp only at hSw); go_simp; try with_reducible rfl)
       simp only [Act.put, List.getElem_toArray, List.getElem_cons_zero, List.getElem_cons_succ, List.setIfInBounds_toArray, List.set_cons_zero, List.set_cons_succ]
       refine tkY 14 (v := ?v74) rfl (.inl ⟨by rfl, ?hy74⟩) ?hr74
       case hy74 => (intro w hSw; (try dsimp only at hSw); go_simp; try with_reducible rfl)
       simp only [Act.put, List.getElem_toArray, List.getElem_cons_zero, List.getElem_cons_succ, List.setIfInBounds_toArray, List.set_cons_zero, List.set_cons_succ]
       refine tkY 15 (v := ?v75) rfl (.inl ⟨by rfl, ?hy75⟩) ?hr75
       case hy75 => (intro w hSw; (try dsimp only at hSw); go_simp; try with_reducible rfl)
       simp only [Act.put, List.getElem_toArray, List.getElem_cons_zero, List.getElem_cons_succ, List.setIfInBounds_toArray, List.set_cons_zero, List.set_cons_succ]
       refine tkY 16 (v := ?v76) rfl (.inl ⟨by rfl, ?hy76⟩) ?hr76
       case hy76 => (intro w hSw; (try dsimp only at hSw); go_simp; try with_reducible rfl)
       simp only [Act.put, List.getElem_toArray, List.getElem_cons_zero, List.getElem_cons_succ, List.setIfInBounds_toArray, List.set_cons_zero, List.set_cons_succ]
       refine wpAnyH_ready (rs := [13]) (by kernel_rfl) (by simp) ?_
       refine AllReadyH.cons rfl (fun K hK => ?_) AllReadyH.nil
       go_simp
       go_at_call 23
       have CJ := tmeet_any _ _ (ofV (VT.meet va vb)) (ofV (vc)) ((VT.meet va vb).kind : Int) Am nm cm kc Ac nc cc _ (RV.ty (RVB.at_ hRm.out hHeld.1)) (RV.ty (RVB.at_ rc2.out hHeld.1))
       rw [bound_of om hoc dm hdc] at CJ
       refine CJ.mono ?_
       clear CJ
       rintro e r7_13 ⟨Ax6, nx6, cx6, rfl, hNx6, hb7_13⟩
       dsimp only
       have hbq := hb7_13
       refine hK.out _ _ ?_ (fun hHeld => ?_)
       ·
        (try dsimp only)
        exact keepS.out _ _ hHeld hbq
       clear hK K
       try simp only [Act.put, List.getElem_toArray, List.getElem_cons_zero, List.getElem_cons_succ, List.setIfInBounds_toArray, List.set_cons_zero, List.set_cons_succ]
       refine wpAnyH_ready (rs := [17]) (by kernel_rfl) (by simp) ?_
       refine AllReadyH.cons rfl (fun K hK => ?_) AllReadyH.nil
       go_simp
       go_at_call 23
       have CJ := tmeet_any _ _ (ofV (vb)) (ofV (vc)) kb Ab nb cb kc Ac nc cc _ (RV.ty (RVB.at_ rb2.out hHeld.1)) (RV.ty (RVB.at_ rc2.out hHeld.1))
       rw [bound_of hob hoc hdb hdc] at CJ
       refine CJ.mono ?_
       clear CJ
       rintro e r7_17 ⟨Ax7, nx7, cx7, rfl, hNx7, hb7_17⟩
       dsimp only
       have hbq := hb7_17
       refine hK.out _ _ ?_ (fun hHeld => ?_)
       ·
        (try dsimp only)
        exact keepS.out _ _ hHeld hbq
       clear hK K
       try simp only [Act.put, List.getElem_toArray, List.getElem_cons_zero, List.getElem_cons_succ, List.setIfInBounds_toArray, List.set_cons_zero, List.set_cons_succ]
       refine wpAnyH_ready (rs := [18]) (by kernel_rfl) (by simp) ?_
       refine AllReadyH.cons rfl (fun K hK => ?_) AllReadyH.nil
       go_simp
       go_at_call 23
       have CJ := tmeet_any _ _ (ofV (va)) (ofV (VT.meet (vb) (vc))) ka Aa na ca ((VT.meet (vb) (vc)).kind : Int) Ax7 nx7 cx7 _ (RV.ty (RVB.at_ ra2.out hHeld.1)) (RV.ty (old_to hNx7 hb7_17.size))
       rw [bound_of hoa (VT.meet_ok hob hoc) hda (meet_dep hdb hdc)] at CJ
       refine CJ.mono ?_
       clear CJ
       rintro e r7_18 ⟨Ax8, nx8, cx8, rfl, hNx8, hb7_18⟩
       dsimp only
       have hbq := hb7_18
       refine hK.out _ _ ?_ (fun hHeld => ?_)
       ·
        (try dsimp only)
        exact keepS.out _ _ hHeld hbq
       clear hK K
       try simp only [Act.put, List.getElem_toArray, List.getElem_cons_zero, List.getElem_cons_succ, List.setIfInBounds_toArray, List.set_cons_zero, List.set_cons_succ]
       refine wpAnyH_ready (rs := [19]) (by kernel_rfl) (by simp) ?_
       refine AllReadyH.cons rfl (fun K hK => ?_) AllReadyH.nil
       go_simp
       go_at_call 15
       have CJ := same_any (VT.meet (VT.meet va vb) (vc)) (VT.meet (va) (VT.meet (vb) (vc))) ((VT.meet (VT.meet va vb) (vc)).kind : Int) Ax6 nx6 cx6 ((VT.meet (va) (VT.meet (vb) (vc))).kind : Int) Ax8 nx8 cx8 _ (VT.meet_ok om hoc) (VT.meet_ok hoa (VT.meet_ok hob hoc)) (RVB.at_ (RVB.at_ (old_to hNx6 hb7_13.size) hb7_17) hb7_18) (old_to hNx8 hb7_18.size)
       rw [decide_eq_true (VT.meet_assoc va vb vc)] at CJ
       refine CJ.mono ?_
       clear CJ
       rintro e r7_19 ⟨rfl, hb7_19⟩
       dsimp only
       have hbq := hb7_19
       refine hK.out _ _ ?_ (fun hHeld => ?_)
       ·
        (try dsimp only)
        exact keepS.out _ _ hHeld hbq
       clear hK K
       try simp only [Act.put, List.getElem_toArray, List.getElem_cons_zero, List.getElem_cons_succ, List.setIfInBounds_toArray, List.set_cons_zero, List.set_cons_succ]
       refine tkY 20 (v := ?v77) rfl (.inl ⟨by rfl, ?hy77⟩) ?hr77
       case hy77 => (intro w hSw; (try dsimp only at hSw); go_simp; try with_reducible rfl)
       simp only [Act.put, List.getElem_toArray, List.getElem_cons_zero, List.getElem_cons_succ, List.setIfInBounds_toArray, List.set_cons_zero, List.set_cons_succ]
       refine tkY 21 (v := ?v78) rfl (.inl ⟨by rfl, ?hy78⟩) ?hr78
       case hy78 => (intro w hSw; (try dsimp only at hSw); go_simp; try with_reducible rfl)
       simp only [Act.put, List.getElem_toArray, List.getElem_cons_zero, List.getElem_cons_succ, List.setIfInBounds_toArray, List.set_cons_zero, List.set_cons_succ]
       refine wpAnyH_done (by kernel_rfl) ?_ _
       have hbW := hHeld.1
       clear hHeld hS1 keepS
       have hR23 : RdB w r7_19 [(pj, [.int .i64 ((VT.join va vb).kind : Int), .slice Aj nj cj]), (pm, [.int .i64 ((VT.meet va vb).kind : Int), .slice Am nm cm]), (pa, [.int .i64 ka, .slice Aa na ca]), (pb, [.int .i64 kb, .slice Ab nb cb]), (pc, [.int .i64 kc, .slice Ac nc cc]), (w.heap.size + 1, [.int .i64 k, .bool b9, .int .i64 i, .string s, .slice A n c, .slice A2 n2 c2])] := hR22.kept hbW
       clear c0_0 c0_1 cf0 c1_0 c1_1 cf1 c2_0 c2_1 cf2 c3_0 c3_1 cf3 c4_0 c4_1 cf4 c5_0 c5_1 c5_2 c5_3 c5_4 c5_5 cf5 hR22
       have c0_0 := hR23.c 0 0
       have c0_1 := hR23.c 0 1
       have cf0 := hR23.fr 0
       have c1_0 := hR23.c 1 0
       have c1_1 := hR23.c 1 1
       have cf1 := hR23.fr 1
       have c2_0 := hR23.c 2 0
       have c2_1 := hR23.c 2 1
       have cf2 := hR23.fr 2
       have c3_0 := hR23.c 3 0
       have c3_1 := hR23.c 3 1
       have cf3 := hR23.fr 3
       have c4_0 := hR23.c 4 0
       have c4_1 := hR23.c 4 1
       have cf4 := hR23.fr 4
       have c5_0 := hR23.c 5 0
       have c5_1 := hR23.c 5 1
       have c5_2 := hR23.c 5 2
       have c5_3 := hR23.c 5 3
       have c5_4 := hR23.c 5 4
       have c5_5 := hR23.c 5 5
       have cf5 := hR23.fr 5
       replace ra2 := Lib.hid (RVB.at_ ra2.out hbW)
       replace rb2 := Lib.hid (RVB.at_ rb2.out hbW)
       replace rc2 := Lib.hid (RVB.at_ rc2.out hbW)
       replace hRj := Lib.hid (RVB.at_ hRj.out hbW)
       replace hRm := Lib.hid (RVB.at_ hRm.out hbW)
       replace rv2 := Lib.hid (RVl.at_ rv2.out hbW)
       clear hbW
       as_aux_lemma =>
        go_upto_region 9 with (fail)
        have hS0 : (Below r7_19.heap.size r7_19 r7_19 ∧ r7_19.cell? ⟨pj, 0, none⟩ = some (.int .i64 ((VT.join va vb).kind : Int)) ∧ r7_19.cell? ⟨pj, 1, none⟩ = some (.slice Aj nj cj) ∧ r7_19.cell? ⟨pm, 0, none⟩ = some (.int .i64 ((VT.meet va vb).kind : Int)) ∧ r7_19.cell? ⟨pm, 1, none⟩ = some (.slice Am nm cm) ∧ r7_19.cell? ⟨pa, 0, none⟩ = some (.int .i64 ka) ∧ r7_19.cell? ⟨pa, 1, none⟩ = some (.slice Aa na ca) ∧ r7_19.cell? ⟨pb, 0, none⟩ = some (.int .i64 kb) ∧ r7_19.cell? ⟨pb, 1, none⟩ = some (.slice Ab nb cb) ∧ r7_19.cell? ⟨pc, 0, none⟩ = some (.int .i64 kc) ∧ r7_19.cell? ⟨pc, 1, none⟩ = some (.slice Ac nc cc) ∧ r7_19.cell? ⟨w.heap.size + 1, 0, none⟩ = some (.int .i64 k) ∧ r7_19.cell? ⟨w.heap.size + 1, 1, none⟩ = some (.bool b9) ∧ r7_19.cell? ⟨w.heap.size + 1, 2, none⟩ = some (.int .i64 i) ∧ r7_19.cell? ⟨w.heap.size + 1, 3, none⟩ = some (.string s) ∧ r7_19.cell? ⟨w.heap.size + 1, 4, none⟩ = some (.slice A n c) ∧ r7_19.cell? ⟨w.heap.size + 1, 5, none⟩ = some (.slice A2 n2 c2)) := ⟨Below.refl _ _, hR23.c 0 0, hR23.c 0 1, hR23.c 1 0, hR23.c 1 1, hR23.c 2 0, hR23.c 2 1, hR23.c 3 0, hR23.c 3 1, hR23.c 4 0, hR23.c 4 1, hR23.c 5 0, hR23.c 5 1, hR23.c 5 2, hR23.c 5 3, hR23.c 5 4, hR23.c 5 5⟩
        have keepS : ∀ v1 v2 : World, (Below r7_19.heap.size r7_19 v1 ∧ v1.cell? ⟨pj, 0, none⟩ = some (.int .i64 ((VT.join va vb).kind : Int)) ∧ v1.cell? ⟨pj, 1, none⟩ = some (.slice Aj nj cj) ∧ v1.cell? ⟨pm, 0, none⟩ = some (.int .i64 ((VT.meet va vb).kind : Int)) ∧ v1.cell? ⟨pm, 1, none⟩ = some (.slice Am nm cm) ∧ v1.cell? ⟨pa, 0, none⟩ = some (.int .i64 ka) ∧ v1.cell? ⟨pa, 1, none⟩ = some (.slice Aa na ca) ∧ v1.cell? ⟨pb, 0, none⟩ = some (.int .i64 kb) ∧ v1.cell? ⟨pb, 1, none⟩ = some (.slice Ab nb cb) ∧ v1.cell? ⟨pc, 0, none⟩ = some (.int .i64 kc) ∧ v1.cell? ⟨pc, 1, none⟩ = some (.slice Ac nc cc) ∧ v1.cell? ⟨w.heap.size + 1, 0, none⟩ = some (.int .i64 k) ∧ v1.cell? ⟨w.heap.size + 1, 1, none⟩ = some (.bool b9) ∧ v1.cell? ⟨w.heap.size + 1, 2, none⟩ = some (.int .i64 i) ∧ v1.cell? ⟨w.heap.size + 1, 3, none⟩ = some (.string s) ∧ v1.cell? ⟨w.heap.size + 1, 4, none⟩ = some (.slice A n c) ∧ v1.cell? ⟨w.heap.size + 1, 5, none⟩ = some (.slice A2 n2 c2)) → Below v1.heap.size v1 v2 → (Below r7_19.heap.size r7_19 v2 ∧ v2.cell? ⟨pj, 0, none⟩ = some (.int .i64 ((VT.join va vb).kind : Int)) ∧ v2.cell? ⟨pj, 1, none⟩ = some (.slice Aj nj cj) ∧ v2.cell? ⟨pm, 0, none⟩ = some (.int .i64 ((VT.meet va vb).kind : Int)) ∧ v2.cell? ⟨pm, 1, none⟩ = some (.slice Am nm cm) ∧ v2.cell? ⟨pa, 0, none⟩ = some (.int .i64 ka) ∧ v2.cell? ⟨pa, 1, none⟩ = some (.slice Aa na ca) ∧ v2.cell? ⟨pb, 0, none⟩ = some (.int .i64 kb) ∧ v2.cell? ⟨pb, 1, none⟩ = some (.slice Ab nb cb) ∧ v2.cell? ⟨pc, 0, none⟩ = some (.int .i64 kc) ∧ v2.cell? ⟨pc, 1, none⟩ = some (.slice Ac nc cc) ∧ v2.cell? ⟨w.heap.size + 1, 0, none⟩ = some (.int .i64 k) ∧ v2.cell? ⟨w.heap.size + 1, 1, none⟩ = some (.bool b9) ∧ v2.cell? ⟨w.heap.size + 1, 2, none⟩ = some (.int .i64 i) ∧ v2.cell? ⟨w.heap.size + 1, 3, none⟩ = some (.string s) ∧ v2.cell? ⟨w.heap.size + 1, 4, none⟩ = some (.slice A n c) ∧ v2.cell? ⟨w.heap.size + 1, 5, none⟩ = some (.slice A2 n2 c2)) := fun v1 v2 h hb => ⟨h.1.trans (hb.mono h.1.size), (hR23.kept (h.1.trans (hb.mono h.1.size))).c 0 0, (hR23.kept (h.1.trans (hb.mono h.1.size))).c 0 1, (hR23.kept (h.1.trans (hb.mono h.1.size))).c 1 0, (hR23.kept (h.1.trans (hb.mono h.1.size))).c 1 1, (hR23.kept (h.1.trans (hb.mono h.1.size))).c 2 0, (hR23.kept (h.1.trans (hb.mono h.1.size))).c 2 1, (hR23.kept (h.1.trans (hb.mono h.1.size))).c 3 0, (hR23.kept (h.1.trans (hb.mono h.1.size))).c 3 1, (hR23.kept (h.1.trans (hb.mono h.1.size))).c 4 0, (hR23.kept (h.1.trans (hb.mono h.1.size))).c 4 1, (hR23.kept (h.1.trans (hb.mono h.1.size))).c 5 0, (hR23.kept (h.1.trans (hb.mono h.1.size))).c 5 1, (hR23.kept (h.1.trans (hb.mono h.1.size))).c 5 2, (hR23.kept (h.1.trans (hb.mono h.1.size))).c 5 3, (hR23.kept (h.1.trans (hb.mono h.1.size))).c 5 4, (hR23.kept (h.1.trans (hb.mono h.1.size))).c 5 5⟩
        have hS1 : (Below r7_19.heap.size r7_19 r7_19.drew ∧ r7_19.drew.cell? ⟨pj, 0, none⟩ = some (.int .i64 ((VT.join va vb).kind : Int)) ∧ r7_19.drew.cell? ⟨pj, 1, none⟩ = some (.slice Aj nj cj) ∧ r7_19.drew.cell? ⟨pm, 0, none⟩ = some (.int .i64 ((VT.meet va vb).kind : Int)) ∧ r7_19.drew.cell? ⟨pm, 1, none⟩ = some (.slice Am nm cm) ∧ r7_19.drew.cell? ⟨pa, 0, none⟩ = some (.int .i64 ka) ∧ r7_19.drew.cell? ⟨pa, 1, none⟩ = some (.slice Aa na ca) ∧ r7_19.drew.cell? ⟨pb, 0, none⟩ = some (.int .i64 kb) ∧ r7_19.drew.cell? ⟨pb, 1, none⟩ = some (.slice Ab nb cb) ∧ r7_19.drew.cell? ⟨pc, 0, none⟩ = some (.int .i64 kc) ∧ r7_19.drew.cell? ⟨pc, 1, none⟩ = some (.slice Ac nc cc) ∧ r7_19.drew.cell? ⟨w.heap.size + 1, 0, none⟩ = some (.int .i64 k) ∧ r7_19.drew.cell? ⟨w.heap.size + 1, 1, none⟩ = some (.bool b9) ∧ r7_19.drew.cell? ⟨w.heap.size + 1, 2, none⟩ = some (.int .i64 i) ∧ r7_19.drew.cell? ⟨w.heap.size + 1, 3, none⟩ = some (.string s) ∧ r7_19.drew.cell? ⟨w.heap.size + 1, 4, none⟩ = some (.slice A n c) ∧ r7_19.drew.cell? ⟨w.heap.size + 1, 5, none⟩ = some (.slice A2 n2 c2)) := keepS _ _ hS0 ((Below.refl _ _).drew)
        replace keepS := Lib.hid keepS
        clear hS0
        refine wp_region_held_drew (S := fun w' => Below r7_19.heap.size r7_19 w' ∧ w'.cell? ⟨pj, 0, none⟩ = some (.int .i64 ((VT.join va vb).kind : Int)) ∧ w'.cell? ⟨pj, 1, none⟩ = some (.slice Aj nj cj) ∧ w'.cell? ⟨pm, 0, none⟩ = some (.int .i64 ((VT.meet va vb).kind : Int)) ∧ w'.cell? ⟨pm, 1, none⟩ = some (.slice Am nm cm) ∧ w'.cell? ⟨pa, 0, none⟩ = some (.int .i64 ka) ∧ w'.cell? ⟨pa, 1, none⟩ = some (.slice Aa na ca) ∧ w'.cell? ⟨pb, 0, none⟩ = some (.int .i64 kb) ∧ w'.cell? ⟨pb, 1, none⟩ = some (.slice Ab nb cb) ∧ w'.cell? ⟨pc, 0, none⟩ = some (.int .i64 kc) ∧ w'.cell? ⟨pc, 1, none⟩ = some (.slice Ac nc cc) ∧ w'.cell? ⟨w.heap.size + 1, 0, none⟩ = some (.int .i64 k) ∧ w'.cell? ⟨w.heap.size + 1, 1, none⟩ = some (.bool b9) ∧ w'.cell? ⟨w.heap.size + 1, 2, none⟩ = some (.int .i64 i) ∧ w'.cell? ⟨w.heap.size + 1, 3, none⟩ = some (.string s) ∧ w'.cell? ⟨w.heap.size + 1, 4, none⟩ = some (.slice A n c) ∧ w'.cell? ⟨w.heap.size + 1, 5, none⟩ = some (.slice A2 n2 c2)) (by kernel_rfl) ?_ (fun hHeld => ?_)
        ·
         (try dsimp only)
         exact hS1
        refine tkY 0 (v := ?v79) rfl (.inl ⟨by rfl, ?hy79⟩) ?hr79
        case hy79 => (intro w hSw; (try dsimp only at hSw); go_simp; try with_reducible rfl)
        simp only [Act.put, List.getElem_toArray, List.getElem_cons_zero, List.getElem_cons_succ, List.setIfInBounds_toArray, List.set_cons_zero, List.set_cons_succ]
        refine tkY 1 (v := ?v80) rfl (.inl ⟨by rfl, ?hy80⟩) ?hr80
        case hy80 => (intro w hSw; (try dsimp only at hSw); go_simp; try with_reducible rfl)
        simp only [Act.put, List.getElem_toArray, List.getElem_cons_zero, List.getElem_cons_succ, List.setIfInBounds_toArray, List.set_cons_zero, List.set_cons_succ]
        refine tkY 3 (v := ?v81) rfl (.inl ⟨by rfl, ?hy81⟩) ?hr81
        case hy81 => (intro w hSw; (try dsimp only at hSw); go_simp; try with_reducible rfl)
        simp only [Act.put, List.getElem_toArray, List.getElem_cons_zero, List.getElem_cons_succ, List.setIfInBounds_toArray, List.set_cons_zero, List.set_cons_succ]
        refine wpAnyH_ready (rs := [2]) (by kernel_rfl) (by simp) ?_
        refine AllReadyH.cons rfl (fun K hK => ?_) AllReadyH.nil
        go_simp
        go_at_call 21
        have CJ := tjoin_any _ _ (ofV (va)) (ofV (VT.meet va vb)) ka Aa na ca ((VT.meet va vb).kind : Int) Am nm cm _ (RV.ty (RVB.at_ ra2.out hHeld.1)) (RV.ty (RVB.at_ hRm.out hHeld.1))
        rw [bound_of hoa om hda dm] at CJ
        refine CJ.mono ?_
        clear CJ
        rintro e r9_2 ⟨Ax9, nx9, cx9, rfl, hNx9, hb9_2⟩
        dsimp only
        have hbq := hb9_2
        refine hK.out _ _ ?_ (fun hHeld => ?_)
        ·
         (try dsimp only)
         exact keepS.out _ _ hHeld hbq
        clear hK K
        try simp only [Act.put, List.getElem_toArray, List.getElem_cons_zero, List.getElem_cons_succ, List.setIfInBounds_toArray, List.set_cons_zero, List.set_cons_succ]
        refine wpAnyH_ready (rs := [4]) (by kernel_rfl) (by simp) ?_
        refine AllReadyH.cons rfl (fun K hK => ?_) AllReadyH.nil
        go_simp
        go_at_call 15
        have CJ := same_any (VT.join (va) (VT.meet va vb)) (va) ((VT.join (va) (VT.meet va vb)).kind : Int) Ax9 nx9 cx9 ka Aa na ca _ (VT.join_ok hoa om) hoa (old_to hNx9 hb9_2.size) (RVB.at_ ra2.out hHeld.1)
        rw [decide_eq_true (VT.absorb_join va vb)] at CJ
        refine CJ.mono ?_
        clear CJ
        rintro e r9_4 ⟨rfl, hb9_4⟩
        dsimp only
        have hbq := hb9_4
        refine hK.out _ _ ?_ (fun hHeld => ?_)
        ·
         (try dsimp only)
         exact keepS.out _ _ hHeld hbq
        clear hK K
        try simp only [Act.put, List.getElem_toArray, List.getElem_cons_zero, List.getElem_cons_succ, List.setIfInBounds_toArray, List.set_cons_zero, List.set_cons_succ]
        refine tkY 5 (v := ?v82) rfl (.inl ⟨by rfl, ?hy82⟩) ?hr82
        case hy82 => (intro w hSw; (try dsimp only at hSw); go_simp; try with_reducible rfl)
        simp only [Act.put, List.getElem_toArray, List.getElem_cons_zero, List.getElem_cons_succ, List.setIfInBounds_toArray, List.set_cons_zero, List.set_cons_succ]
        refine tkY 6 (v := ?v83) rfl (.inl ⟨by rfl, ?hy83⟩) ?hr83
        case hy83 => (intro w hSw; (try dsimp only at hSw); go_simp; try with_reducible rfl)
        simp only [Act.put, List.getElem_toArray, List.getElem_cons_zero, List.getElem_cons_succ, List.setIfInBounds_toArray, List.set_cons_zero, List.set_cons_succ]
        refine tkY 7 (v := ?v84) rfl (.inl ⟨by rfl, ?hy84⟩) ?hr84
        case hy84 => (intro w hSw; (try dsimp only at hSw); go_simp; try with_reducible rfl)
        simp only [Act.put, List.getElem_toArray, List.getElem_cons_zero, List.getElem_cons_succ, List.setIfInBounds_toArray, List.set_cons_zero, List.set_cons_succ]
        refine tkY 8 (v := ?v85) rfl (.inl ⟨by rfl, ?hy85⟩) ?hr85
        case hy85 => (intro w hSw; (try dsimp only at hSw); go_simp; try with_reducible rfl)
        simp only [Act.put, List.getElem_toArray, List.getElem_cons_zero, List.getElem_cons_succ, List.setIfInBounds_toArray, List.set_cons_zero, List.set_cons_succ]
        refine tkY 10 (v := ?v86) rfl (.inl ⟨by rfl, ?hy86⟩) ?hr86
        case hy86 => (intro w hSw; (try dsimp only at hSw); go_simp; try with_reducible rfl)
        simp only [Act.put, List.getElem_toArray, List.getElem_cons_zero, List.getElem_cons_succ, List.setIfInBounds_toArray, List.set_cons_zero, List.set_cons_succ]
        refine wpAnyH_ready (rs := [9]) (by kernel_rfl) (by simp) ?_
        refine AllReadyH.cons rfl (fun K hK => ?_) AllReadyH.nil
        go_simp
        go_at_call 23
        have CJ := tmeet_any _ _ (ofV (va)) (ofV (VT.join va vb)) ka Aa na ca ((VT.join va vb).kind : Int) Aj nj cj _ (RV.ty (RVB.at_ ra2.out hHeld.1)) (RV.ty (RVB.at_ hRj.out hHeld.1))
        rw [bound_of hoa oj hda dj] at CJ
        refine CJ.mono ?_
        clear CJ
        rintro e r9_9 ⟨Axa1, nxa1, cxa1, rfl, hNxa1, hb9_9⟩
        dsimp only
        have hbq := hb9_9
        refine hK.out _ _ ?_ (fun hHeld => ?_)
        ·
         (try dsimp only)
         exact keepS.out _ _ hHeld hbq
        clear hK K
        try simp only [Act.put, List.getElem_toArray, List.getElem_cons_zero, List.getElem_cons_succ, List.setIfInBounds_toArray, List.set_cons_zero, List.set_cons_succ]
        refine wpAnyH_ready (rs := [11]) (by kernel_rfl) (by simp) ?_
        refine AllReadyH.cons rfl (fun K hK => ?_) AllReadyH.nil
        go_simp
        go_at_call 15
        have CJ := same_any (VT.meet (va) (VT.join va vb)) (va) ((VT.meet (va) (VT.join va vb)).kind : Int) Axa1 nxa1 cxa1 ka Aa na ca _ (VT.meet_ok hoa oj) hoa (old_to hNxa1 hb9_9.size) (RVB.at_ ra2.out hHeld.1)
        rw [decide_eq_true (VT.absorb_meet va vb)] at CJ
        refine CJ.mono ?_
        clear CJ
        rintro e r9_11 ⟨rfl, hb9_11⟩
        dsimp only
        have hbq := hb9_11
        refine hK.out _ _ ?_ (fun hHeld => ?_)
        ·
         (try dsimp only)
         exact keepS.out _ _ hHeld hbq
        clear hK K
        try simp only [Act.put, List.getElem_toArray, List.getElem_cons_zero, List.getElem_cons_succ, List.setIfInBounds_toArray, List.set_cons_zero, List.set_cons_succ]
        refine tkY 12 (v := ?v87) rfl (.inl ⟨by rfl, ?hy87⟩) ?hr87
        case hy87 => (intro w hSw; (try dsimp only at hSw); go_simp; try with_reducible rfl)
        simp only [Act.put, List.getElem_toArray, List.getElem_cons_zero, List.getElem_cons_succ, List.setIfInBounds_toArray, List.set_cons_zero, List.set_cons_succ]
        refine tkY 13 (v := ?v88) rfl (.inl ⟨by rfl, ?hy88⟩) ?hr88
        case hy88 => (intro w hSw; (try dsimp only at hSw); go_simp; try with_reducible rfl)
        simp only [Act.put, List.getElem_toArray, List.getElem_cons_zero, List.getElem_cons_succ, List.setIfInBounds_toArray, List.set_cons_zero, List.set_cons_succ]
        refine wpAnyH_done (by kernel_rfl) ?_ _
        have hbW := hHeld.1
        clear hHeld hS1 keepS
        have hR24 : RdB w r9_11 [(pj, [.int .i64 ((VT.join va vb).kind : Int), .slice Aj nj cj]), (pm, [.int .i64 ((VT.meet va vb).kind : Int), .slice Am nm cm]), (pa, [.int .i64 ka, .slice Aa na ca]), (pb, [.int .i64 kb, .slice Ab nb cb]), (pc, [.int .i64 kc, .slice Ac nc cc]), (w.heap.size + 1, [.int .i64 k, .bool b9, .int .i64 i, .string s, .slice A n c, .slice A2 n2 c2])] := hR23.kept hbW
        clear c0_0 c0_1 cf0 c1_0 c1_1 cf1 c2_0 c2_1 cf2 c3_0 c3_1 cf3 c4_0 c4_1 cf4 c5_0 c5_1 c5_2 c5_3 c5_4 c5_5 cf5 hR23
        have c0_0 := hR24.c 0 0
        have c0_1 := hR24.c 0 1
        have cf0 := hR24.fr 0
        have c1_0 := hR24.c 1 0
        have c1_1 := hR24.c 1 1
        have cf1 := hR24.fr 1
        have c2_0 := hR24.c 2 0
        have c2_1 := hR24.c 2 1
        have cf2 := hR24.fr 2
        have c3_0 := hR24.c 3 0
        have c3_1 := hR24.c 3 1
        have cf3 := hR24.fr 3
        have c4_0 := hR24.c 4 0
        have c4_1 := hR24.c 4 1
        have cf4 := hR24.fr 4
        have c5_0 := hR24.c 5 0
        have c5_1 := hR24.c 5 1
        have c5_2 := hR24.c 5 2
        have c5_3 := hR24.c 5 3
        have c5_4 := hR24.c 5 4
        have c5_5 := hR24.c 5 5
        have cf5 := hR24.fr 5
        replace ra2 := Lib.hid (RVB.at_ ra2.out hbW)
        replace rb2 := Lib.hid (RVB.at_ rb2.out hbW)
        replace rc2 := Lib.hid (RVB.at_ rc2.out hbW)
        replace hRj := Lib.hid (RVB.at_ hRj.out hbW)
        replace hRm := Lib.hid (RVB.at_ hRm.out hbW)
        replace rv2 := Lib.hid (RVl.at_ rv2.out hbW)
        clear hbW
        have hsab : ∃ sx, sx = VT.sub va vb := ⟨_, rfl⟩
        clear hsab
        as_aux_lemma =>
         go_upto_region 11 with (fail)
         have hS0 : (Below r9_11.heap.size r9_11 r9_11 ∧ r9_11.cell? ⟨pj, 0, none⟩ = some (.int .i64 ((VT.join va vb).kind : Int)) ∧ r9_11.cell? ⟨pj, 1, none⟩ = some (.slice Aj nj cj) ∧ r9_11.cell? ⟨pm, 0, none⟩ = some (.int .i64 ((VT.meet va vb).kind : Int)) ∧ r9_11.cell? ⟨pm, 1, none⟩ = some (.slice Am nm cm) ∧ r9_11.cell? ⟨pa, 0, none⟩ = some (.int .i64 ka) ∧ r9_11.cell? ⟨pa, 1, none⟩ = some (.slice Aa na ca) ∧ r9_11.cell? ⟨pb, 0, none⟩ = some (.int .i64 kb) ∧ r9_11.cell? ⟨pb, 1, none⟩ = some (.slice Ab nb cb) ∧ r9_11.cell? ⟨pc, 0, none⟩ = some (.int .i64 kc) ∧ r9_11.cell? ⟨pc, 1, none⟩ = some (.slice Ac nc cc) ∧ r9_11.cell? ⟨w.heap.size + 1, 0, none⟩ = some (.int .i64 k) ∧ r9_11.cell? ⟨w.heap.size + 1, 1, none⟩ = some (.bool b9) ∧ r9_11.cell? ⟨w.heap.size + 1, 2, none⟩ = some (.int .i64 i) ∧ r9_11.cell? ⟨w.heap.size + 1, 3, none⟩ = some (.string s) ∧ r9_11.cell? ⟨w.heap.size + 1, 4, none⟩ = some (.slice A n c) ∧ r9_11.cell? ⟨w.heap.size + 1, 5, none⟩ = some (.slice A2 n2 c2)) := ⟨Below.refl _ _, hR24.c 0 0, hR24.c 0 1, hR24.c 1 0, hR24.c 1 1, hR24.c 2 0, hR24.c 2 1, hR24.c 3 0, hR24.c 3 1, hR24.c 4 0, hR24.c 4 1, hR24.c 5 0, hR24.c 5 1, hR24.c 5 2, hR24.c 5 3, hR24.c 5 4, hR24.c 5 5⟩
         have keepS : ∀ v1 v2 : World, (Below r9_11.heap.size r9_11 v1 ∧ v1.cell? ⟨pj, 0, none⟩ = some (.int .i64 ((VT.join va vb).kind : Int)) ∧ v1.cell? ⟨pj, 1, none⟩ = some (.slice Aj nj cj) ∧ v1.cell? ⟨pm, 0, none⟩ = some (.int .i64 ((VT.meet va vb).kind : Int)) ∧ v1.cell? ⟨pm, 1, none⟩ = some (.slice Am nm cm) ∧ v1.cell? ⟨pa, 0, none⟩ = some (.int .i64 ka) ∧ v1.cell? ⟨pa, 1, none⟩ = some (.slice Aa na ca) ∧ v1.cell? ⟨pb, 0, none⟩ = some (.int .i64 kb) ∧ v1.cell? ⟨pb, 1, none⟩ = some (.slice Ab nb cb) ∧ v1.cell? ⟨pc, 0, none⟩ = some (.int .i64 kc) ∧ v1.cell? ⟨pc, 1, none⟩ = some (.slice Ac nc cc) ∧ v1.cell? ⟨w.heap.size + 1, 0, none⟩ = some (.int .i64 k) ∧ v1.cell? ⟨w.heap.size + 1, 1, none⟩ = some (.bool b9) ∧ v1.cell? ⟨w.heap.size + 1, 2, none⟩ = some (.int .i64 i) ∧ v1.cell? ⟨w.heap.size + 1, 3, none⟩ = some (.string s) ∧ v1.cell? ⟨w.heap.size + 1, 4, none⟩ = some (.slice A n c) ∧ v1.cell? ⟨w.heap.size + 1, 5, none⟩ = some (.slice A2 n2 c2)) → Below v1.heap.size v1 v2 → (Below r9_11.heap.size r9_11 v2 ∧ v2.cell? ⟨pj, 0, none⟩ = some (.int .i64 ((VT.join va vb).kind : Int)) ∧ v2.cell? ⟨pj, 1, none⟩ = some (.slice Aj nj cj) ∧ v2.cell? ⟨pm, 0, none⟩ = some (.int .i64 ((VT.meet va vb).kind : Int)) ∧ v2.cell? ⟨pm, 1, none⟩ = some (.slice Am nm cm) ∧ v2.cell? ⟨pa, 0, none⟩ = some (.int .i64 ka) ∧ v2.cell? ⟨pa, 1, none⟩ = some (.slice Aa na ca) ∧ v2.cell? ⟨pb, 0, none⟩ = some (.int .i64 kb) ∧ v2.cell? ⟨pb, 1, none⟩ = some (.slice Ab nb cb) ∧ v2.cell? ⟨pc, 0, none⟩ = some (.int .i64 kc) ∧ v2.cell? ⟨pc, 1, none⟩ = some (.slice Ac nc cc) ∧ v2.cell? ⟨w.heap.size + 1, 0, none⟩ = some (.int .i64 k) ∧ v2.cell? ⟨w.heap.size + 1, 1, none⟩ = some (.bool b9) ∧ v2.cell? ⟨w.heap.size + 1, 2, none⟩ = some (.int .i64 i) ∧ v2.cell? ⟨w.heap.size + 1, 3, none⟩ = some (.string s) ∧ v2.cell? ⟨w.heap.size + 1, 4, none⟩ = some (.slice A n c) ∧ v2.cell? ⟨w.heap.size + 1, 5, none⟩ = some (.slice A2 n2 c2)) := fun v1 v2 h hb => ⟨h.1.trans (hb.mono h.1.size), (hR24.kept (h.1.trans (hb.mono h.1.size))).c 0 0, (hR24.kept (h.1.trans (hb.mono h.1.size))).c 0 1, (hR24.kept (h.1.trans (hb.mono h.1.size))).c 1 0, (hR24.kept (h.1.trans (hb.mono h.1.size))).c 1 1, (hR24.kept (h.1.trans (hb.mono h.1.size))).c 2 0, (hR24.kept (h.1.trans (hb.mono h.1.size))).c 2 1, (hR24.kept (h.1.trans (hb.mono h.1.size))).c 3 0, (hR24.kept (h.1.trans (hb.mono h.1.size))).c 3 1, (hR24.kept (h.1.trans (hb.mono h.1.size))).c 4 0, (hR24.kept (h.1.trans (hb.mono h.1.size))).c 4 1, (hR24.kept (h.1.trans (hb.mono h.1.size))).c 5 0, (hR24.kept (h.1.trans (hb.mono h.1.size))).c 5 1, (hR24.kept (h.1.trans (hb.mono h.1.size))).c 5 2, (hR24.kept (h.1.trans (hb.mono h.1.size))).c 5 3, (hR24.kept (h.1.trans (hb.mono h.1.size))).c 5 4, (hR24.kept (h.1.trans (hb.mono h.1.size))).c 5 5⟩
         have hS1 : (Below r9_11.heap.size r9_11 r9_11.drew ∧ r9_11.drew.cell? ⟨pj, 0, none⟩ = some (.int .i64 ((VT.join va vb).kind : Int)) ∧ r9_11.drew.cell? ⟨pj, 1, none⟩ = some (.slice Aj nj cj) ∧ r9_11.drew.cell? ⟨pm, 0, none⟩ = some (.int .i64 ((VT.meet va vb).kind : Int)) ∧ r9_11.drew.cell? ⟨pm, 1, none⟩ = some (.slice Am nm cm) ∧ r9_11.drew.cell? ⟨pa, 0, none⟩ = some (.int .i64 ka) ∧ r9_11.drew.cell? ⟨pa, 1, none⟩ = some (.slice Aa na ca) ∧ r9_11.drew.cell? ⟨pb, 0, none⟩ = some (.int .i64 kb) ∧ r9_11.drew.cell? ⟨pb, 1, none⟩ = some (.slice Ab nb cb) ∧ r9_11.drew.cell? ⟨pc, 0, none⟩ = some (.int .i64 kc) ∧ r9_11.drew.cell? ⟨pc, 1, none⟩ = some (.slice Ac nc cc) ∧ r9_11.drew.cell? ⟨w.heap.size + 1, 0, none⟩ = some (.int .i64 k) ∧ r9_11.drew.cell? ⟨w.heap.size + 1, 1, none⟩ = some (.bool b9) ∧ r9_11.drew.cell? ⟨w.heap.size + 1, 2, none⟩ = some (.int .i64 i) ∧ r9_11.drew.cell? ⟨w.heap.size + 1, 3, none⟩ = some (.string s) ∧ r9_11.drew.cell? ⟨w.heap.size + 1, 4, none⟩ = some (.slice A n c) ∧ r9_11.drew.cell? ⟨w.heap.size + 1, 5, none⟩ = some (.slice A2 n2 c2)) := keepS _ _ hS0 ((Below.refl _ _).drew)
         replace keepS := Lib.hid keepS
         clear hS0
         refine wp_region_held_drew (S := fun w' => Below r9_11.heap.size r9_11 w' ∧ w'.cell? ⟨pj, 0, none⟩ = some (.int .i64 ((VT.join va vb).kind : Int)) ∧ w'.cell? ⟨pj, 1, none⟩ = some (.slice Aj nj cj) ∧ w'.cell? ⟨pm, 0, none⟩ = some (.int .i64 ((VT.meet va vb).kind : Int)) ∧ w'.cell? ⟨pm, 1, none⟩ = some (.slice Am nm cm) ∧ w'.cell? ⟨pa, 0, none⟩ = some (.int .i64 ka) ∧ w'.cell? ⟨pa, 1, none⟩ = some (.slice Aa na ca) ∧ w'.cell? ⟨pb, 0, none⟩ = some (.int .i64 kb) ∧ w'.cell? ⟨pb, 1, none⟩ = some (.slice Ab nb cb) ∧ w'.cell? ⟨pc, 0, none⟩ = some (.int .i64 kc) ∧ w'.cell? ⟨pc, 1, none⟩ = some (.slice Ac nc cc) ∧ w'.cell? ⟨w.heap.size + 1, 0, none⟩ = some (.int .i64 k) ∧ w'.cell? ⟨w.heap.size + 1, 1, none⟩ = some (.bool b9) ∧ w'.cell? ⟨w.heap.size + 1, 2, none⟩ = some (.int .i64 i) ∧ w'.cell? ⟨w.heap.size + 1, 3, none⟩ = some (.string s) ∧ w'.cell? ⟨w.heap.size + 1, 4, none⟩ = some (.slice A n c) ∧ w'.cell? ⟨w.heap.size + 1, 5, none⟩ = some (.slice A2 n2 c2)) (by kernel_rfl) ?_ (fun hHeld => ?_)
         ·
          (try dsimp only)
          exact hS1
         refine tkY 0 (v := ?v89) rfl (.inl ⟨by rfl, ?hy89⟩) ?hr89
         case hy89 => (intro w hSw; (try dsimp only at hSw); go_simp; try with_reducible rfl)
         simp only [Act.put, List.getElem_toArray, List.getElem_cons_zero, List.getElem_cons_succ, List.setIfInBounds_toArray, List.set_cons_zero, List.set_cons_succ]
         refine tkY 1 (v := ?v90) rfl (.inl ⟨by rfl, ?hy90⟩) ?hr90
         case hy90 => (intro w hSw; (try dsimp only at hSw); go_simp; try with_reducible rfl)
         simp only [Act.put, List.getElem_toArray, List.getElem_cons_zero, List.getElem_cons_succ, List.setIfInBounds_toArray, List.set_cons_zero, List.set_cons_succ]
         refine tkY 3 (v := ?v91) rfl (.inl ⟨by rfl, ?hy91⟩) ?hr91
         case hy91 => (intro w hSw; (try dsimp only at hSw); go_simp; try with_reducible rfl)
         simp only [Act.put, List.getElem_toArray, List.getElem_cons_zero, List.getElem_cons_succ, List.setIfInBounds_toArray, List.set_cons_zero, List.set_cons_succ]
         refine tkY 4 (v := ?v92) rfl (.inl ⟨by rfl, ?hy92⟩) ?hr92
         case hy92 => (intro w hSw; (try dsimp only at hSw); go_simp; try with_reducible rfl)
         simp only [Act.put, List.getElem_toArray, List.getElem_cons_zero, List.getElem_cons_succ, List.setIfInBounds_toArray, List.set_cons_zero, List.set_cons_succ]
         refine wpAnyH_ready (rs := [2]) (by kernel_rfl) (by simp) ?_
         refine AllReadyH.cons rfl (fun K hK => ?_) AllReadyH.nil
         go_simp
         go_at_call 19
         have CJ := sub_any _ _ (ofV (va)) (ofV (vb)) ka Aa na ca kb Ab nb cb _ (RV.ty (RVB.at_ ra2.out hHeld.1)) (RV.ty (RVB.at_ rb2.out hHeld.1))
         rw [subS_of hoa hob hda hdb] at CJ
         refine CJ.mono ?_
         clear CJ
         rintro e r11_2 ⟨rfl, hb11_2⟩
         dsimp only
         have hbq := hb11_2
         refine hK.out _ _ ?_ (fun hHeld => ?_)
         ·
          (try dsimp only)
          exact keepS.out _ _ hHeld hbq
         clear hK K
         try simp only [Act.put, List.getElem_toArray, List.getElem_cons_zero, List.getElem_cons_succ, List.setIfInBounds_toArray, List.set_cons_zero, List.set_cons_succ]
         refine wpAnyH_ready (rs := [5]) (by kernel_rfl) (by simp) ?_
         refine AllReadyH.cons rfl (fun K hK => ?_) AllReadyH.nil
         go_simp
         go_at_call 15
         have CJ := same_any (VT.join va vb) (vb) ((VT.join va vb).kind : Int) Aj nj cj kb Ab nb cb _ oj hob (RVB.at_ hRj.out hHeld.1) (RVB.at_ rb2.out hHeld.1)
         rw [sub_dec hoa hob] at CJ
         refine CJ.mono ?_
         clear CJ
         rintro e r11_5 ⟨rfl, hb11_5⟩
         dsimp only
         have hbq := hb11_5
         refine hK.out _ _ ?_ (fun hHeld => ?_)
         ·
          (try dsimp only)
          exact keepS.out _ _ hHeld hbq
         clear hK K
         try simp only [Act.put, List.getElem_toArray, List.getElem_cons_zero, List.getElem_cons_succ, List.setIfInBounds_toArray, List.set_cons_zero, List.set_cons_succ]
         refine tkY 6 (v := ?v93) rfl (.inl ⟨by rfl, ?hy93⟩) ?hr93
         case hy93 => (intro w hSw; (try dsimp only at hSw); go_simp; try with_reducible rfl)
         simp only [Act.put, List.getElem_toArray, List.getElem_cons_zero, List.getElem_cons_succ, List.setIfInBounds_toArray, List.set_cons_zero, List.set_cons_succ]
         refine tkY 7 (v := ?v94) rfl (.inl ⟨by rfl, ?hy94⟩) ?hr94
         case hy94 => (intro w hSw; (try dsimp only at hSw); go_simp; try with_reducible rfl)
         simp only [Act.put, List.getElem_toArray, List.getElem_cons_zero, List.getElem_cons_succ, List.setIfInBounds_toArray, List.set_cons_zero, List.set_cons_succ]
         refine tkY 8 (v := ?v95) rfl (.inl ⟨by rfl, ?hy95⟩) ?hr95
         case hy95 => (intro w hSw; (try dsimp only at hSw); go_simp; try with_reducible rfl)
         simp only [Act.put, List.getElem_toArray, List.getElem_cons_zero, List.getElem_cons_succ, List.setIfInBounds_toArray, List.set_cons_zero, List.set_cons_succ]
         refine tkY 9 (v := ?v96) rfl (.inl ⟨by rfl, ?hy96⟩) ?hr96
         case hy96 => (intro w hSw; (try dsimp only at hSw); go_simp; try with_reducible rfl)
         simp only [Act.put, List.getElem_toArray, List.getElem_cons_zero, List.getElem_cons_succ, List.setIfInBounds_toArray, List.set_cons_zero, List.set_cons_succ]
         refine tkY 11 (v := ?v97) rfl (.inl ⟨by rfl, ?hy97⟩) ?hr97
         case hy97 => (intro w hSw; (try dsimp only at hSw); go_simp; try with_reducible rfl)
         simp only [Act.put, List.getElem_toArray, List.getElem_cons_zero, List.getElem_cons_succ, List.setIfInBounds_toArray, List.set_cons_zero, List.set_cons_succ]
         refine tkY 12 (v := ?v98) rfl (.inl ⟨by rfl, ?hy98⟩) ?hr98
         case hy98 => (intro w hSw; (try dsimp only at hSw); go_simp; try with_reducible rfl)
         simp only [Act.put, List.getElem_toArray, List.getElem_cons_zero, List.getElem_cons_succ, List.setIfInBounds_toArray, List.set_cons_zero, List.set_cons_succ]
         refine wpAnyH_ready (rs := [10]) (by kernel_rfl) (by simp) ?_
         refine AllReadyH.cons rfl (fun K hK => ?_) AllReadyH.nil
         go_simp
         go_at_call 19
         have CJ := sub_any _ _ (ofV (va)) (ofV (vb)) ka Aa na ca kb Ab nb cb _ (RV.ty (RVB.at_ ra2.out hHeld.1)) (RV.ty (RVB.at_ rb2.out hHeld.1))
         rw [subS_of hoa hob hda hdb] at CJ
         refine CJ.mono ?_
         clear CJ
         rintro e r11_10 ⟨rfl, hb11_10⟩
         dsimp only
         have hbq := hb11_10
         refine hK.out _ _ ?_ (fun hHeld => ?_)
         ·
          (try dsimp only)
          exact keepS.out _ _ hHeld hbq
         clear hK K
         try simp only [Act.put, List.getElem_toArray, List.getElem_cons_zero, List.getElem_cons_succ, List.setIfInBounds_toArray, List.set_cons_zero, List.set_cons_succ]
         refine wpAnyH_ready (rs := [13]) (by kernel_rfl) (by simp) ?_
         refine AllReadyH.cons rfl (fun K hK => ?_) AllReadyH.nil
         go_simp
         go_at_call 15
         have CJ := same_any (VT.meet va vb) (va) ((VT.meet va vb).kind : Int) Am nm cm ka Aa na ca _ om hoa (RVB.at_ hRm.out hHeld.1) (RVB.at_ ra2.out hHeld.1)
         rw [sub_dec2 hoa hob] at CJ
         refine CJ.mono ?_
         clear CJ
         rintro e r11_13 ⟨rfl, hb11_13⟩
         dsimp only
         have hbq := hb11_13
         refine hK.out _ _ ?_ (fun hHeld => ?_)
         ·
          (try dsimp only)
          exact keepS.out _ _ hHeld hbq
         clear hK K
         try simp only [Act.put, List.getElem_toArray, List.getElem_cons_zero, List.getElem_cons_succ, List.setIfInBounds_toArray, List.set_cons_zero, List.set_cons_succ]
         refine tkY 14 (v := ?v99) rfl (.inl ⟨by rfl, ?hy99⟩) ?hr99
         case hy99 => (intro w hSw; (try dsimp only at hSw); go_simp; try with_reducible rfl)
         simp only [Act.put, List.getElem_toArray, List.getElem_cons_zero, List.getElem_cons_succ, List.setIfInBounds_toArray, List.set_cons_zero, List.set_cons_succ]
         refine tkY 15 (v := ?v100) rfl (.inl ⟨by rfl, ?hy100⟩) ?hr100
         case hy100 => (intro w hSw; (try dsimp only at hSw); go_simp; try with_reducible rfl)
         simp only [Act.put, List.getElem_toArray, List.getElem_cons_zero, List.getElem_cons_succ, List.setIfInBounds_toArray, List.set_cons_zero, List.set_cons_succ]
         refine tkY 16 (v := ?v101) rfl (.inl ⟨by rfl, ?hy101⟩) ?hr101
         case hy101 => (intro w hSw; (try dsimp only at hSw); go_simp; try with_reducible rfl)
         simp only [Act.put, List.getElem_toArray, List.getElem_cons_zero, List.getElem_cons_succ, List.setIfInBounds_toArray, List.set_cons_zero, List.set_cons_succ]
         refine tkY 17 (v := ?v102) rfl (.inl ⟨by rfl, ?hy102⟩) ?hr102
         case hy102 => (intro w hSw; (try dsimp only at hSw); go_simp; try with_reducible rfl)
         simp only [Act.put, List.getElem_toArray, List.getElem_cons_zero, List.getElem_cons_succ, List.setIfInBounds_toArray, List.set_cons_zero, List.set_cons_succ]
         refine tkY 18 (v := ?v103) rfl (.inl ⟨by rfl, ?hy103⟩) ?hr103
         case hy103 => (intro w hSw; (try dsimp only at hSw); go_simp; try with_reducible rfl)
         simp only [Act.put, List.getElem_toArray, List.getElem_cons_zero, List.getElem_cons_succ, List.setIfInBounds_toArray, List.set_cons_zero, List.set_cons_succ]
         refine wpAnyH_ready (rs := [19]) (by kernel_rfl) (by simp) ?_
         refine AllReadyH.cons rfl (fun K hK => ?_) AllReadyH.nil
         go_simp
         go_at_call 19
         have CJ := sub_any _ _ (ofV (va)) (ofV (VT.join va vb)) ka Aa na ca ((VT.join va vb).kind : Int) Aj nj cj _ (RV.ty (RVB.at_ ra2.out hHeld.1)) (RV.ty (RVB.at_ hRj.out hHeld.1))
         rw [subS_of hoa oj hda dj] at CJ
         rw [VT.sub_join_left hoa hob] at CJ
         refine CJ.mono ?_
         clear CJ
         rintro e r11_19 ⟨rfl, hb11_19⟩
         dsimp only
         have hbq := hb11_19
         refine hK.out _ _ ?_ (fun hHeld => ?_)
         ·
          (try dsimp only)
          exact keepS.out _ _ hHeld hbq
         clear hK K
         try simp only [Act.put, List.getElem_toArray, List.getElem_cons_zero, List.getElem_cons_succ, List.setIfInBounds_toArray, List.set_cons_zero, List.set_cons_succ]
         refine tkY 20 (v := ?v104) rfl (.inl ⟨by rfl, ?hy104⟩) ?hr104
         case hy104 => (intro w hSw; (try dsimp only at hSw); go_simp; try with_reducible rfl)
         simp only [Act.put, List.getElem_toArray, List.getElem_cons_zero, List.getElem_cons_succ, List.setIfInBounds_toArray, List.set_cons_zero, List.set_cons_succ]
         refine tkY 21 (v := ?v105) rfl (.inl ⟨by rfl, ?hy105⟩) ?hr105
         case hy105 => (intro w hSw; (try dsimp only at hSw); go_simp; try with_reducible rfl)
         simp only [Act.put, List.getElem_toArray, List.getElem_cons_zero, List.getElem_cons_succ, List.setIfInBounds_toArray, List.set_cons_zero, List.set_cons_succ]
         refine tkY 22 (v := ?v106) rfl (.inl ⟨by rfl, ?hy106⟩) ?hr106
         case hy106 => (intro w hSw; (try dsimp only at hSw); go_simp; try with_reducible rfl)
         simp only [Act.put, List.getElem_toArray, List.getElem_cons_zero, List.getElem_cons_succ, List.setIfInBounds_toArray, List.set_cons_zero, List.set_cons_succ]
         refine tkY 23 (v := ?v107) rfl (.inl ⟨by rfl, ?hy107⟩) ?hr107
         case hy107 => (intro w hSw; (try dsimp only at hSw); go_simp; try with_reducible rfl)
         simp only [Act.put, List.getElem_toArray, List.getElem_cons_zero, List.getElem_cons_succ, List.setIfInBounds_toArray, List.set_cons_zero, List.set_cons_succ]
         refine tkY 24 (v := ?v108) rfl (.inl ⟨by rfl, ?hy108⟩) ?hr108
         case hy108 => (intro w hSw; (try dsimp only at hSw); go_simp; try with_reducible rfl)
         simp only [Act.put, List.getElem_toArray, List.getElem_cons_zero, List.getElem_cons_succ, List.setIfInBounds_toArray, List.set_cons_zero, List.set_cons_succ]
         refine wpAnyH_ready (rs := [25]) (by kernel_rfl) (by simp) ?_
         refine AllReadyH.cons rfl (fun K hK => ?_) AllReadyH.nil
         go_simp
         go_at_call 19
         have CJ := sub_any _ _ (ofV (VT.meet va vb)) (ofV (va)) ((VT.meet va vb).kind : Int) Am nm cm ka Aa na ca _ (RV.ty (RVB.at_ hRm.out hHeld.1)) (RV.ty (RVB.at_ ra2.out hHeld.1))
         rw [subS_of om hoa dm hda] at CJ
         rw [VT.sub_meet_left hoa hob] at CJ
         refine CJ.mono ?_
         clear CJ
         rintro e r11_25 ⟨rfl, hb11_25⟩
         dsimp only
         have hbq := hb11_25
         refine hK.out _ _ ?_ (fun hHeld => ?_)
         ·
          (try dsimp only)
          exact keepS.out _ _ hHeld hbq
         clear hK K
         try simp only [Act.put, List.getElem_toArray, List.getElem_cons_zero, List.getElem_cons_succ, List.setIfInBounds_toArray, List.set_cons_zero, List.set_cons_succ]
         refine tkY 26 (v := ?v109) rfl (.inl ⟨by rfl, ?hy109⟩) ?hr109
         case hy109 => (intro w hSw; (try dsimp only at hSw); go_simp; try with_reducible rfl)
         simp only [Act.put, List.getElem_toArray, List.getElem_cons_zero, List.getElem_cons_succ, List.setIfInBounds_toArray, List.set_cons_zero, List.set_cons_succ]
         refine tkY 27 (v := ?v110) rfl (.inl ⟨by rfl, ?hy110⟩) ?hr110
         case hy110 => (intro w hSw; (try dsimp only at hSw); go_simp; try with_reducible rfl)
         simp only [Act.put, List.getElem_toArray, List.getElem_cons_zero, List.getElem_cons_succ, List.setIfInBounds_toArray, List.set_cons_zero, List.set_cons_succ]
         refine wpAnyH_done (by kernel_rfl) ?_ _
         have hbW := hHeld.1
         clear hHeld hS1 keepS
         have hR25 : RdB w r11_25 [(pj, [.int .i64 ((VT.join va vb).kind : Int), .slice Aj nj cj]), (pm, [.int .i64 ((VT.meet va vb).kind : Int), .slice Am nm cm]), (pa, [.int .i64 ka, .slice Aa na ca]), (pb, [.int .i64 kb, .slice Ab nb cb]), (pc, [.int .i64 kc, .slice Ac nc cc]), (w.heap.size + 1, [.int .i64 k, .bool b9, .int .i64 i, .string s, .slice A n c, .slice A2 n2 c2])] := hR24.kept hbW
         clear c0_0 c0_1 cf0 c1_0 c1_1 cf1 c2_0 c2_1 cf2 c3_0 c3_1 cf3 c4_0 c4_1 cf4 c5_0 c5_1 c5_2 c5_3 c5_4 c5_5 cf5 hR24
         have c0_0 := hR25.c 0 0
         have c0_1 := hR25.c 0 1
         have cf0 := hR25.fr 0
         have c1_0 := hR25.c 1 0
         have c1_1 := hR25.c 1 1
         have cf1 := hR25.fr 1
         have c2_0 := hR25.c 2 0
         have c2_1 := hR25.c 2 1
         have cf2 := hR25.fr 2
         have c3_0 := hR25.c 3 0
         have c3_1 := hR25.c 3 1
         have cf3 := hR25.fr 3
         have c4_0 := hR25.c 4 0
         have c4_1 := hR25.c 4 1
         have cf4 := hR25.fr 4
         have c5_0 := hR25.c 5 0
         have c5_1 := hR25.c 5 1
         have c5_2 := hR25.c 5 2
         have c5_3 := hR25.c 5 3
         have c5_4 := hR25.c 5 4
         have c5_5 := hR25.c 5 5
         have cf5 := hR25.fr 5
         replace ra2 := Lib.hid (RVB.at_ ra2.out hbW)
         replace rb2 := Lib.hid (RVB.at_ rb2.out hbW)
         replace rc2 := Lib.hid (RVB.at_ rc2.out hbW)
         replace hRj := Lib.hid (RVB.at_ hRj.out hbW)
         replace hRm := Lib.hid (RVB.at_ hRm.out hbW)
         replace rv2 := Lib.hid (RVl.at_ rv2.out hbW)
         clear hbW
         have htr : VT.sub va vb = true → VT.sub vb vc = true → VT.sub va vc = true := VT.sub_trans hoa hob hoc
         have han : VT.sub va vb = true → VT.sub vb va = true → decide (va = vb) = true := fun h1 h2 => decide_eq_true (VT.sub_anti hoa hob h1 h2)
         replace htr := Lib.hid htr
         go_upto_region 13 with (fail)
         go_cut [143] (fun u143 wx => ∃ wq : World, wq = wx ∧ u143 = .bool false ∧ Below r11_25.heap.size r11_25 wx)
         case first => as_aux_lemma =>
          have hBW := Below.refl r11_25.heap.size r11_25
          cases hq1 : VT.sub va vb with
          | false => as_aux_lemma =>
           replace hq1 := Lib.hid hq1
           clear htr han
           have CJ := sub_any _ _ (ofV va) (ofV vb) ka Aa na ca kb Ab nb cb r11_25 (RV.ty ra2.out) (RV.ty rb2.out)
           rw [subS_of hoa hob hda hdb, hq1.out] at CJ
           repeat' ((fail_if_success at_builtin); (first | go_skip | go_guarded | go_step))
           refine CJ.mono ?_
           clear CJ
           rintro e t1 ⟨rfl, ht1⟩
           dsimp only
           have hR26 : RdB w t1 [(pj, [.int .i64 ((VT.join va vb).kind : Int), .slice Aj nj cj]), (pm, [.int .i64 ((VT.meet va vb).kind : Int), .slice Am nm cm]), (pa, [.int .i64 ka, .slice Aa na ca]), (pb, [.int .i64 kb, .slice Ab nb cb]), (pc, [.int .i64 kc, .slice Ac nc cc]), (w.heap.size + 1, [.int .i64 k, .bool b9, .int .i64 i, .string s, .slice A n c, .slice A2 n2 c2])] := hR25.kept ht1
           clear c0_0 c0_1 cf0 c1_0 c1_1 cf1 c2_0 c2_1 cf2 c3_0 c3_1 cf3 c4_0 c4_1 cf4 c5_0 c5_1 c5_2 c5_3 c5_4 c5_5 cf5 hR25
           have c0_0 := hR26.c 0 0
           have c0_1 := hR26.c 0 1
           have cf0 := hR26.fr 0
           have c1_0 := hR26.c 1 0
           have c1_1 := hR26.c 1 1
           have cf1 := hR26.fr 1
           have c2_0 := hR26.c 2 0
           have c2_1 := hR26.c 2 1
           have cf2 := hR26.fr 2
           have c3_0 := hR26.c 3 0
           have c3_1 := hR26.c 3 1
           have cf3 := hR26.fr 3
           have c4_0 := hR26.c 4 0
           have c4_1 := hR26.c 4 1
           have cf4 := hR26.fr 4
           have c5_0 := hR26.c 5 0
           have c5_1 := hR26.c 5 1
           have c5_2 := hR26.c 5 2
           have c5_3 := hR26.c 5 3
           have c5_4 := hR26.c 5 4
           have c5_5 := hR26.c 5 5
           have cf5 := hR26.fr 5
           replace ra2 := Lib.hid (RVB.at_ ra2.out ht1)
           replace rb2 := Lib.hid (RVB.at_ rb2.out ht1)
           replace rc2 := Lib.hid (RVB.at_ rc2.out ht1)
           replace hRj := Lib.hid (RVB.at_ hRj.out ht1)
           replace hRm := Lib.hid (RVB.at_ hRm.out ht1)
           replace hBW := hBW.trans (ht1.mono hBW.size)
           have CJ := sub_any _ _ (ofV va) (ofV vb) ka Aa na ca kb Ab nb cb t1 (RV.ty ra2.out) (RV.ty rb2.out)
           rw [subS_of hoa hob hda hdb, hq1.out] at CJ
           repeat' ((fail_if_success at_builtin); (first | go_skip | go_guarded | go_step))
           refine CJ.mono ?_
           clear CJ
           rintro e u1 ⟨rfl, hu1⟩
           dsimp only
           have hR27 : RdB w u1 [(pj, [.int .i64 ((VT.join va vb).kind : Int), .slice Aj nj cj]), (pm, [.int .i64 ((VT.meet va vb).kind : Int), .slice Am nm cm]), (pa, [.int .i64 ka, .slice Aa na ca]), (pb, [.int .i64 kb, .slice Ab nb cb]), (pc, [.int .i64 kc, .slice Ac nc cc]), (w.heap.size + 1, [.int .i64 k, .bool b9, .int .i64 i, .string s, .slice A n c, .slice A2 n2 c2])] := hR26.kept hu1
           clear c0_0 c0_1 cf0 c1_0 c1_1 cf1 c2_0 c2_1 cf2 c3_0 c3_1 cf3 c4_0 c4_1 cf4 c5_0 c5_1 c5_2 c5_3 c5_4 c5_5 cf5 hR26
           have c0_0 := hR27.c 0 0
           have c0_1 := hR27.c 0 1
           have cf0 := hR27.fr 0
           have c1_0 := hR27.c 1 0
           have c1_1 := hR27.c 1 1
           have cf1 := hR27.fr 1
           have c2_0 := hR27.c 2 0
           have c2_1 := hR27.c 2 1
           have cf2 := hR27.fr 2
           have c3_0 := hR27.c 3 0
           have c3_1 := hR27.c 3 1
           have cf3 := hR27.fr 3
           have c4_0 := hR27.c 4 0
           have c4_1 := hR27.c 4 1
           have cf4 := hR27.fr 4
           have c5_0 := hR27.c 5 0
           have c5_1 := hR27.c 5 1
           have c5_2 := hR27.c 5 2
           have c5_3 := hR27.c 5 3
           have c5_4 := hR27.c 5 4
           have c5_5 := hR27.c 5 5
           have cf5 := hR27.fr 5
           replace ra2 := Lib.hid (RVB.at_ ra2.out hu1)
           replace rb2 := Lib.hid (RVB.at_ rb2.out hu1)
           replace rc2 := Lib.hid (RVB.at_ rc2.out hu1)
           replace hRj := Lib.hid (RVB.at_ hRj.out hu1)
           replace hRm := Lib.hid (RVB.at_ hRm.out hu1)
           replace hBW := hBW.trans (hu1.mono hBW.size)
           repeat' ((fail_if_success at_builtin); (first | go_skip | go_guarded | go_step))
           go_meet
           case rel => exact ⟨_, rfl, rfl, hBW⟩
          | true => as_aux_lemma =>
           replace hq1 := Lib.hid hq1
           have CJ := sub_any _ _ (ofV va) (ofV vb) ka Aa na ca kb Ab nb cb r11_25 (RV.ty ra2.out) (RV.ty rb2.out)
           rw [subS_of hoa hob hda hdb, hq1.out] at CJ
           repeat' ((fail_if_success at_builtin); (first | go_skip | go_guarded | go_step))
           refine CJ.mono ?_
           clear CJ
           rintro e t1 ⟨rfl, ht1⟩
           dsimp only
           have hR26 : RdB w t1 [(pj, [.int .i64 ((VT.join va vb).kind : Int), .slice Aj nj cj]), (pm, [.int .i64 ((VT.meet va vb).kind : Int), .slice Am nm cm]), (pa, [.int .i64 ka, .slice Aa na ca]), (pb, [.int .i64 kb, .slice Ab nb cb]), (pc, [.int .i64 kc, .slice Ac nc cc]), (w.heap.size + 1, [.int .i64 k, .bool b9, .int .i64 i, .string s, .slice A n c, .slice A2 n2 c2])] := hR25.kept ht1
           clear c0_0 c0_1 cf0 c1_0 c1_1 cf1 c2_0 c2_1 cf2 c3_0 c3_1 cf3 c4_0 c4_1 cf4 c5_0 c5_1 c5_2 c5_3 c5_4 c5_5 cf5 hR25
           have c0_0 := hR26.c 0 0
           have c0_1 := hR26.c 0 1
           have cf0 := hR26.fr 0
           have c1_0 := hR26.c 1 0
           have c1_1 := hR26.c 1 1
           have cf1 := hR26.fr 1
           have c2_0 := hR26.c 2 0
           have c2_1 := hR26.c 2 1
           have cf2 := hR26.fr 2
           have c3_0 := hR26.c 3 0
           have c3_1 := hR26.c 3 1
           have cf3 := hR26.fr 3
           have c4_0 := hR26.c 4 0
           have c4_1 := hR26.c 4 1
           have cf4 := hR26.fr 4
           have c5_0 := hR26.c 5 0
           have c5_1 := hR26.c 5 1
           have c5_2 := hR26.c 5 2
           have c5_3 := hR26.c 5 3
           have c5_4 := hR26.c 5 4
           have c5_5 := hR26.c 5 5
           have cf5 := hR26.fr 5
           replace ra2 := Lib.hid (RVB.at_ ra2.out ht1)
           replace rb2 := Lib.hid (RVB.at_ rb2.out ht1)
           replace rc2 := Lib.hid (RVB.at_ rc2.out ht1)
           replace hRj := Lib.hid (RVB.at_ hRj.out ht1)
           replace hRm := Lib.hid (RVB.at_ hRm.out ht1)
           replace hBW := hBW.trans (ht1.mono hBW.size)
           cases hq2 : VT.sub vb vc with
           | false => as_aux_lemma =>
            replace hq2 := Lib.hid hq2
            have CJ := sub_any _ _ (ofV vb) (ofV vc) kb Ab nb cb kc Ac nc cc t1 (RV.ty rb2.out) (RV.ty rc2.out)
            rw [subS_of hob hoc hdb hdc, hq2.out] at CJ
            repeat' ((fail_if_success at_builtin); (first | go_skip | go_guarded | go_step))
            refine CJ.mono ?_
            clear CJ
            rintro e t2 ⟨rfl, ht2⟩
            dsimp only
            have hR27 : RdB w t2 [(pj, [.int .i64 ((VT.join va vb).kind : Int), .slice Aj nj cj]), (pm, [.int .i64 ((VT.meet va vb).kind : Int), .slice Am nm cm]), (pa, [.int .i64 ka, .slice Aa na ca]), (pb, [.int .i64 kb, .slice Ab nb cb]), (pc, [.int .i64 kc, .slice Ac nc cc]), (w.heap.size + 1, [.int .i64 k, .bool b9, .int .i64 i, .string s, .slice A n c, .slice A2 n2 c2])] := hR26.kept ht2
            clear c0_0 c0_1 cf0 c1_0 c1_1 cf1 c2_0 c2_1 cf2 c3_0 c3_1 cf3 c4_0 c4_1 cf4 c5_0 c5_1 c5_2 c5_3 c5_4 c5_5 cf5 hR26
            have c0_0 := hR27.c 0 0
            have c0_1 := hR27.c 0 1
            have cf0 := hR27.fr 0
            have c1_0 := hR27.c 1 0
            have c1_1 := hR27.c 1 1
            have cf1 := hR27.fr 1
            have c2_0 := hR27.c 2 0
            have c2_1 := hR27.c 2 1
            have cf2 := hR27.fr 2
            have c3_0 := hR27.c 3 0
            have c3_1 := hR27.c 3 1
            have cf3 := hR27.fr 3
            have c4_0 := hR27.c 4 0
            have c4_1 := hR27.c 4 1
            have cf4 := hR27.fr 4
            have c5_0 := hR27.c 5 0
            have c5_1 := hR27.c 5 1
            have c5_2 := hR27.c 5 2
            have c5_3 := hR27.c 5 3
            have c5_4 := hR27.c 5 4
            have c5_5 := hR27.c 5 5
            have cf5 := hR27.fr 5
            replace ra2 := Lib.hid (RVB.at_ ra2.out ht2)
            replace rb2 := Lib.hid (RVB.at_ rb2.out ht2)
            replace rc2 := Lib.hid (RVB.at_ rc2.out ht2)
            replace hRj := Lib.hid (RVB.at_ hRj.out ht2)
            replace hRm := Lib.hid (RVB.at_ hRm.out ht2)
            replace hBW := hBW.trans (ht2.mono hBW.size)
            have CJ := sub_any _ _ (ofV va) (ofV vb) ka Aa na ca kb Ab nb cb t2 (RV.ty ra2.out) (RV.ty rb2.out)
            rw [subS_of hoa hob hda hdb, hq1.out] at CJ
            repeat' ((fail_if_success at_builtin); (first | go_skip | go_guarded | go_step))
            refine CJ.mono ?_
            clear CJ
            rintro e u1 ⟨rfl, hu1⟩
            dsimp only
            have hR28 : RdB w u1 [(pj, [.int .i64 ((VT.join va vb).kind : Int), .slice Aj nj cj]), (pm, [.int .i64 ((VT.meet va vb).kind : Int), .slice Am nm cm]), (pa, [.int .i64 ka, .slice Aa na ca]), (pb, [.int .i64 kb, .slice Ab nb cb]), (pc, [.int .i64 kc, .slice Ac nc cc]), (w.heap.size + 1, [.int .i64 k, .bool b9, .int .i64 i, .string s, .slice A n c, .slice A2 n2 c2])] := hR27.kept hu1
            clear c0_0 c0_1 cf0 c1_0 c1_1 cf1 c2_0 c2_1 cf2 c3_0 c3_1 cf3 c4_0 c4_1 cf4 c5_0 c5_1 c5_2 c5_3 c5_4 c5_5 cf5 hR27
            have c0_0 := hR28.c 0 0
            have c0_1 := hR28.c 0 1
            have cf0 := hR28.fr 0
            have c1_0 := hR28.c 1 0
            have c1_1 := hR28.c 1 1
            have cf1 := hR28.fr 1
            have c2_0 := hR28.c 2 0
            have c2_1 := hR28.c 2 1
            have cf2 := hR28.fr 2
            have c3_0 := hR28.c 3 0
            have c3_1 := hR28.c 3 1
            have cf3 := hR28.fr 3
            have c4_0 := hR28.c 4 0
            have c4_1 := hR28.c 4 1
            have cf4 := hR28.fr 4
            have c5_0 := hR28.c 5 0
            have c5_1 := hR28.c 5 1
            have c5_2 := hR28.c 5 2
            have c5_3 := hR28.c 5 3
            have c5_4 := hR28.c 5 4
            have c5_5 := hR28.c 5 5
            have cf5 := hR28.fr 5
            replace ra2 := Lib.hid (RVB.at_ ra2.out hu1)
            replace rb2 := Lib.hid (RVB.at_ rb2.out hu1)
            replace rc2 := Lib.hid (RVB.at_ rc2.out hu1)
            replace hRj := Lib.hid (RVB.at_ hRj.out hu1)
            replace hRm := Lib.hid (RVB.at_ hRm.out hu1)
            replace hBW := hBW.trans (hu1.mono hBW.size)
            cases hq3 : VT.sub vb va with
            | false => as_aux_lemma =>
             replace hq3 := Lib.hid hq3
             have CJ := sub_any _ _ (ofV vb) (ofV va) kb Ab nb cb ka Aa na ca u1 (RV.ty rb2.out) (RV.ty ra2.out)
             rw [subS_of hob hoa hdb hda, hq3.out] at CJ
             repeat' ((fail_if_success at_builtin); (first | go_skip | go_guarded | go_step))
             refine CJ.mono ?_
             clear CJ
             rintro e u2 ⟨rfl, hu2⟩
             dsimp only
             have hR29 : RdB w u2 [(pj, [.int .i64 ((VT.join va vb).kind : Int), .slice Aj nj cj]), (pm, [.int .i64 ((VT.meet va vb).kind : Int), .slice Am nm cm]), (pa, [.int .i64 ka, .slice Aa na ca]), (pb, [.int .i64 kb, .slice Ab nb cb]), (pc, [.int .i64 kc, .slice Ac nc cc]), (w.heap.size + 1, [.int .i64 k, .bool b9, .int .i64 i, .string s, .slice A n c, .slice A2 n2 c2])] := hR28.kept hu2
             clear c0_0 c0_1 cf0 c1_0 c1_1 cf1 c2_0 c2_1 cf2 c3_0 c3_1 cf3 c4_0 c4_1 cf4 c5_0 c5_1 c5_2 c5_3 c5_4 c5_5 cf5 hR28
             have c0_0 := hR29.c 0 0
             have c0_1 := hR29.c 0 1
             have cf0 := hR29.fr 0
             have c1_0 := hR29.c 1 0
             have c1_1 := hR29.c 1 1
             have cf1 := hR29.fr 1
             have c2_0 := hR29.c 2 0
             have c2_1 := hR29.c 2 1
             have cf2 := hR29.fr 2
             have c3_0 := hR29.c 3 0
             have c3_1 := hR29.c 3 1
             have cf3 := hR29.fr 3
             have c4_0 := hR29.c 4 0
             have c4_1 := hR29.c 4 1
             have cf4 := hR29.fr 4
             have c5_0 := hR29.c 5 0
             have c5_1 := hR29.c 5 1
             have c5_2 := hR29.c 5 2
             have c5_3 := hR29.c 5 3
             have c5_4 := hR29.c 5 4
             have c5_5 := hR29.c 5 5
             have cf5 := hR29.fr 5
             replace ra2 := Lib.hid (RVB.at_ ra2.out hu2)
             replace rb2 := Lib.hid (RVB.at_ rb2.out hu2)
             replace rc2 := Lib.hid (RVB.at_ rc2.out hu2)
             replace hRj := Lib.hid (RVB.at_ hRj.out hu2)
             replace hRm := Lib.hid (RVB.at_ hRm.out hu2)
             replace hBW := hBW.trans (hu2.mono hBW.size)
             repeat' ((fail_if_success at_builtin); (first | go_skip | go_guarded | go_step))
             go_meet
             case rel => exact ⟨_, rfl, rfl, hBW⟩
            | true => as_aux_lemma =>
             have heq := han hq1.out hq3
             replace hq3 := Lib.hid hq3
             replace heq := Lib.hid heq
             have CJ := sub_any _ _ (ofV vb) (ofV va) kb Ab nb cb ka Aa na ca u1 (RV.ty rb2.out) (RV.ty ra2.out)
             rw [subS_of hob hoa hdb hda, hq3.out] at CJ
             repeat' ((fail_if_success at_builtin); (first | go_skip | go_guarded | go_step))
             refine CJ.mono ?_
             clear CJ
             rintro e u2 ⟨rfl, hu2⟩
             dsimp only
             have hR29 : RdB w u2 [(pj, [.int .i64 ((VT.join va vb).kind : Int), .slice Aj nj cj]), (pm, [.int .i64 ((VT.meet va vb).kind : Int), .slice Am nm cm]), (pa, [.int .i64 ka, .slice Aa na ca]), (pb, [.int .i64 kb, .slice Ab nb cb]), (pc, [.int .i64 kc, .slice Ac nc cc]), (w.heap.size + 1, [.int .i64 k, .bool b9, .int .i64 i, .string s, .slice A n c, .slice A2 n2 c2])] := hR28.kept hu2
             clear c0_0 c0_1 cf0 c1_0 c1_1 cf1 c2_0 c2_1 cf2 c3_0 c3_1 cf3 c4_0 c4_1 cf4 c5_0 c5_1 c5_2 c5_3 c5_4 c5_5 cf5 hR28
             have c0_0 := hR29.c 0 0
             have c0_1 := hR29.c 0 1
             have cf0 := hR29.fr 0
             have c1_0 := hR29.c 1 0
             have c1_1 := hR29.c 1 1
             have cf1 := hR29.fr 1
             have c2_0 := hR29.c 2 0
             have c2_1 := hR29.c 2 1
             have cf2 := hR29.fr 2
             have c3_0 := hR29.c 3 0
             have c3_1 := hR29.c 3 1
             have cf3 := hR29.fr 3
             have c4_0 := hR29.c 4 0
             have c4_1 := hR29.c 4 1
             have cf4 := hR29.fr 4
             have c5_0 := hR29.c 5 0
             have c5_1 := hR29.c 5 1
             have c5_2 := hR29.c 5 2
             have c5_3 := hR29.c 5 3
             have c5_4 := hR29.c 5 4
             have c5_5 := hR29.c 5 5
             have cf5 := hR29.fr 5
             replace ra2 := Lib.hid (RVB.at_ ra2.out hu2)
             replace rb2 := Lib.hid (RVB.at_ rb2.out hu2)
             replace rc2 := Lib.hid (RVB.at_ rc2.out hu2)
             replace hRj := Lib.hid (RVB.at_ hRj.out hu2)
             replace hRm := Lib.hid (RVB.at_ hRm.out hu2)
             replace hBW := hBW.trans (hu2.mono hBW.size)
             have CJ := same_any va vb ka Aa na ca kb Ab nb cb u2 hoa hob ra2.out rb2.out
             rw [heq.out] at CJ
             repeat' ((fail_if_success at_builtin); (first | go_skip | go_guarded | go_step))
             refine CJ.mono ?_
             clear CJ
             rintro e u3 ⟨rfl, hu3⟩
             dsimp only
             have hR30 : RdB w u3 [(pj, [.int .i64 ((VT.join va vb).kind : Int), .slice Aj nj cj]), (pm, [.int .i64 ((VT.meet va vb).kind : Int), .slice Am nm cm]), (pa, [.int .i64 ka, .slice Aa na ca]), (pb, [.int .i64 kb, .slice Ab nb cb]), (pc, [.int .i64 kc, .slice Ac nc cc]), (w.heap.size + 1, [.int .i64 k, .bool b9, .int .i64 i, .string s, .slice A n c, .slice A2 n2 c2])] := hR29.kept hu3
             clear c0_0 c0_1 cf0 c1_0 c1_1 cf1 c2_0 c2_1 cf2 c3_0 c3_1 cf3 c4_0 c4_1 cf4 c5_0 c5_1 c5_2 c5_3 c5_4 c5_5 cf5 hR29
             have c0_0 := hR30.c 0 0
             have c0_1 := hR30.c 0 1
             have cf0 := hR30.fr 0
             have c1_0 := hR30.c 1 0
             have c1_1 := hR30.c 1 1
             have cf1 := hR30.fr 1
             have c2_0 := hR30.c 2 0
             have c2_1 := hR30.c 2 1
             have cf2 := hR30.fr 2
             have c3_0 := hR30.c 3 0
             have c3_1 := hR30.c 3 1
             have cf3 := hR30.fr 3
             have c4_0 := hR30.c 4 0
             have c4_1 := hR30.c 4 1
             have cf4 := hR30.fr 4
             have c5_0 := hR30.c 5 0
             have c5_1 := hR30.c 5 1
             have c5_2 := hR30.c 5 2
             have c5_3 := hR30.c 5 3
             have c5_4 := hR30.c 5 4
             have c5_5 := hR30.c 5 5
             have cf5 := hR30.fr 5
             replace ra2 := Lib.hid (RVB.at_ ra2.out hu3)
             replace rb2 := Lib.hid (RVB.at_ rb2.out hu3)
             replace rc2 := Lib.hid (RVB.at_ rc2.out hu3)
             replace hRj := Lib.hid (RVB.at_ hRj.out hu3)
             replace hRm := Lib.hid (RVB.at_ hRm.out hu3)
             replace hBW := hBW.trans (hu3.mono hBW.size)
             repeat' ((fail_if_success at_builtin); (first | go_skip | go_guarded | go_step))
             go_meet
             case rel => exact ⟨_, rfl, rfl, hBW⟩
           | true => as_aux_lemma =>
            have hq4 := htr.out hq1.out hq2
            replace hq2 := Lib.hid hq2
            replace hq4 := Lib.hid hq4
            have CJ := sub_any _ _ (ofV vb) (ofV vc) kb Ab nb cb kc Ac nc cc t1 (RV.ty rb2.out) (RV.ty rc2.out)
            rw [subS_of hob hoc hdb hdc, hq2.out] at CJ
            repeat' ((fail_if_success at_builtin); (first | go_skip | go_guarded | go_step))
            refine CJ.mono ?_
            clear CJ
            rintro e t2 ⟨rfl, ht2⟩
            dsimp only
            have hR27 : RdB w t2 [(pj, [.int .i64 ((VT.join va vb).kind : Int), .slice Aj nj cj]), (pm, [.int .i64 ((VT.meet va vb).kind : Int), .slice Am nm cm]), (pa, [.int .i64 ka, .slice Aa na ca]), (pb, [.int .i64 kb, .slice Ab nb cb]), (pc, [.int .i64 kc, .slice Ac nc cc]), (w.heap.size + 1, [.int .i64 k, .bool b9, .int .i64 i, .string s, .slice A n c, .slice A2 n2 c2])] := hR26.kept ht2
            clear c0_0 c0_1 cf0 c1_0 c1_1 cf1 c2_0 c2_1 cf2 c3_0 c3_1 cf3 c4_0 c4_1 cf4 c5_0 c5_1 c5_2 c5_3 c5_4 c5_5 cf5 hR26
            have c0_0 := hR27.c 0 0
            have c0_1 := hR27.c 0 1
            have cf0 := hR27.fr 0
            have c1_0 := hR27.c 1 0
            have c1_1 := hR27.c 1 1
            have cf1 := hR27.fr 1
            have c2_0 := hR27.c 2 0
            have c2_1 := hR27.c 2 1
            have cf2 := hR27.fr 2
            have c3_0 := hR27.c 3 0
            have c3_1 := hR27.c 3 1
            have cf3 := hR27.fr 3
            have c4_0 := hR27.c 4 0
            have c4_1 := hR27.c 4 1
            have cf4 := hR27.fr 4
            have c5_0 := hR27.c 5 0
            have c5_1 := hR27.c 5 1
            have c5_2 := hR27.c 5 2
            have c5_3 := hR27.c 5 3
            have c5_4 := hR27.c 5 4
            have c5_5 := hR27.c 5 5
            have cf5 := hR27.fr 5
            replace ra2 := Lib.hid (RVB.at_ ra2.out ht2)
            replace rb2 := Lib.hid (RVB.at_ rb2.out ht2)
            replace rc2 := Lib.hid (RVB.at_ rc2.out ht2)
            replace hRj := Lib.hid (RVB.at_ hRj.out ht2)
            replace hRm := Lib.hid (RVB.at_ hRm.out ht2)
            replace hBW := hBW.trans (ht2.mono hBW.size)
            have CJ := sub_any _ _ (ofV va) (ofV vc) ka Aa na ca kc Ac nc cc t2 (RV.ty ra2.out) (RV.ty rc2.out)
            rw [subS_of hoa hoc hda hdc, hq4.out] at CJ
            repeat' ((fail_if_success at_builtin); (first | go_skip | go_guarded | go_step))
            refine CJ.mono ?_
            clear CJ
            rintro e t3 ⟨rfl, ht3⟩
            dsimp only
            have hR28 : RdB w t3 [(pj, [.int .i64 ((VT.join va vb).kind : Int), .slice Aj nj cj]), (pm, [.int .i64 ((VT.meet va vb).kind : Int), .slice Am nm cm]), (pa, [.int .i64 ka, .slice Aa na ca]), (pb, [.int .i64 kb, .slice Ab nb cb]), (pc, [.int .i64 kc, .slice Ac nc cc]), (w.heap.size + 1, [.int .i64 k, .bool b9, .int .i64 i, .string s, .slice A n c, .slice A2 n2 c2])] := hR27.kept ht3
            clear c0_0 c0_1 cf0 c1_0 c1_1 cf1 c2_0 c2_1 cf2 c3_0 c3_1 cf3 c4_0 c4_1 cf4 c5_0 c5_1 c5_2 c5_3 c5_4 c5_5 cf5 hR27
            have c0_0 := hR28.c 0 0
            have c0_1 := hR28.c 0 1
            have cf0 := hR28.fr 0
            have c1_0 := hR28.c 1 0
            have c1_1 := hR28.c 1 1
            have cf1 := hR28.fr 1
            have c2_0 := hR28.c 2 0
            have c2_1 := hR28.c 2 1
            have cf2 := hR28.fr 2
            have c3_0 := hR28.c 3 0
            have c3_1 := hR28.c 3 1
            have cf3 := hR28.fr 3
            have c4_0 := hR28.c 4 0
            have c4_1 := hR28.c 4 1
            have cf4 := hR28.fr 4
            have c5_0 := hR28.c 5 0
            have c5_1 := hR28.c 5 1
            have c5_2 := hR28.c 5 2
            have c5_3 := hR28.c 5 3
            have c5_4 := hR28.c 5 4
            have c5_5 := hR28.c 5 5
            have cf5 := hR28.fr 5
            replace ra2 := Lib.hid (RVB.at_ ra2.out ht3)
            replace rb2 := Lib.hid (RVB.at_ rb2.out ht3)
            replace rc2 := Lib.hid (RVB.at_ rc2.out ht3)
            replace hRj := Lib.hid (RVB.at_ hRj.out ht3)
            replace hRm := Lib.hid (RVB.at_ hRm.out ht3)
            replace hBW := hBW.trans (ht3.mono hBW.size)
            have CJ := sub_any _ _ (ofV va) (ofV vb) ka Aa na ca kb Ab nb cb t3 (RV.ty ra2.out) (RV.ty rb2.out)
            rw [subS_of hoa hob hda hdb, hq1.out] at CJ
            repeat' ((fail_if_success at_builtin); (first | go_skip | go_guarded | go_step))
            refine CJ.mono ?_
            clear CJ
            rintro e u1 ⟨rfl, hu1⟩
            dsimp only
            have hR29 : RdB w u1 [(pj, [.int .i64 ((VT.join va vb).kind : Int), .slice Aj nj cj]), (pm, [.int .i64 ((VT.meet va vb).kind : Int), .slice Am nm cm]), (pa, [.int .i64 ka, .slice Aa na ca]), (pb, [.int .i64 kb, .slice Ab nb cb]), (pc, [.int .i64 kc, .slice Ac nc cc]), (w.heap.size + 1, [.int .i64 k, .bool b9, .int .i64 i, .string s, .slice A n c, .slice A2 n2 c2])] := hR28.kept hu1
            clear c0_0 c0_1 cf0 c1_0 c1_1 cf1 c2_0 c2_1 cf2 c3_0 c3_1 cf3 c4_0 c4_1 cf4 c5_0 c5_1 c5_2 c5_3 c5_4 c5_5 cf5 hR28
            have c0_0 := hR29.c 0 0
            have c0_1 := hR29.c 0 1
            have cf0 := hR29.fr 0
            have c1_0 := hR29.c 1 0
            have c1_1 := hR29.c 1 1
            have cf1 := hR29.fr 1
            have c2_0 := hR29.c 2 0
            have c2_1 := hR29.c 2 1
            have cf2 := hR29.fr 2
            have c3_0 := hR29.c 3 0
            have c3_1 := hR29.c 3 1
            have cf3 := hR29.fr 3
            have c4_0 := hR29.c 4 0
            have c4_1 := hR29.c 4 1
            have cf4 := hR29.fr 4
            have c5_0 := hR29.c 5 0
            have c5_1 := hR29.c 5 1
            have c5_2 := hR29.c 5 2
            have c5_3 := hR29.c 5 3
            have c5_4 := hR29.c 5 4
            have c5_5 := hR29.c 5 5
            have cf5 := hR29.fr 5
            replace ra2 := Lib.hid (RVB.at_ ra2.out hu1)
            replace rb2 := Lib.hid (RVB.at_ rb2.out hu1)
            replace rc2 := Lib.hid (RVB.at_ rc2.out hu1)
            replace hRj := Lib.hid (RVB.at_ hRj.out hu1)
            replace hRm := Lib.hid (RVB.at_ hRm.out hu1)
            replace hBW := hBW.trans (hu1.mono hBW.size)
            cases hq3 : VT.sub vb va with
            | false => as_aux_lemma =>
             replace hq3 := Lib.hid hq3
             have CJ := sub_any _ _ (ofV vb) (ofV va) kb Ab nb cb ka Aa na ca u1 (RV.ty rb2.out) (RV.ty ra2.out)
             rw [subS_of hob hoa hdb hda, hq3.out] at CJ
             repeat' ((fail_if_success at_builtin); (first | go_skip | go_guarded | go_step))
             refine CJ.mono ?_
             clear CJ
             rintro e u2 ⟨rfl, hu2⟩
             dsimp only
             have hR30 : RdB w u2 [(pj, [.int .i64 ((VT.join va vb).kind : Int), .slice Aj nj cj]), (pm, [.int .i64 ((VT.meet va vb).kind : Int), .slice Am nm cm]), (pa, [.int .i64 ka, .slice Aa na ca]), (pb, [.int .i64 kb, .slice Ab nb cb]), (pc, [.int .i64 kc, .slice Ac nc cc]), (w.heap.size + 1, [.int .i64 k, .bool b9, .int .i64 i, .string s, .slice A n c, .slice A2 n2 c2])] := hR29.kept hu2
             clear c0_0 c0_1 cf0 c1_0 c1_1 cf1 c2_0 c2_1 cf2 c3_0 c3_1 cf3 c4_0 c4_1 cf4 c5_0 c5_1 c5_2 c5_3 c5_4 c5_5 cf5 hR29
             have c0_0 := hR30.c 0 0
             have c0_1 := hR30.c 0 1
             have cf0 := hR30.fr 0
             have c1_0 := hR30.c 1 0
             have c1_1 := hR30.c 1 1
             have cf1 := hR30.fr 1
             have c2_0 := hR30.c 2 0
             have c2_1 := hR30.c 2 1
             have cf2 := hR30.fr 2
             have c3_0 := hR30.c 3 0
             have c3_1 := hR30.c 3 1
             have cf3 := hR30.fr 3
             have c4_0 := hR30.c 4 0
             have c4_1 := hR30.c 4 1
             have cf4 := hR30.fr 4
             have c5_0 := hR30.c 5 0
             have c5_1 := hR30.c 5 1
             have c5_2 := hR30.c 5 2
             have c5_3 := hR30.c 5 3
             have c5_4 := hR30.c 5 4
             have c5_5 := hR30.c 5 5
             have cf5 := hR30.fr 5
             replace ra2 := Lib.hid (RVB.at_ ra2.out hu2)
             replace rb2 := Lib.hid (RVB.at_ rb2.out hu2)
             replace rc2 := Lib.hid (RVB.at_ rc2.out hu2)
             replace hRj := Lib.hid (RVB.at_ hRj.out hu2)
             replace hRm := Lib.hid (RVB.at_ hRm.out hu2)
             replace hBW := hBW.trans (hu2.mono hBW.size)
             repeat' ((fail_if_success at_builtin); (first | go_skip | go_guarded | go_step))
             go_meet
             case rel => exact ⟨_, rfl, rfl, hBW⟩
            | true => as_aux_lemma =>
             have heq := han hq1.out hq3
             replace hq3 := Lib.hid hq3
             replace heq := Lib.hid heq
             have CJ := sub_any _ _ (ofV vb) (ofV va) kb Ab nb cb ka Aa na ca u1 (RV.ty rb2.out) (RV.ty ra2.out)
             rw [subS_of hob hoa hdb hda, hq3.out] at CJ
             repeat' ((fail_if_success at_builtin); (first | go_skip | go_guarded | go_step))
             refine CJ.mono ?_
             clear CJ
             rintro e u2 ⟨rfl, hu2⟩
             dsimp only
             have hR30 : RdB w u2 [(pj, [.int .i64 ((VT.join va vb).kind : Int), .slice Aj nj cj]), (pm, [.int .i64 ((VT.meet va vb).kind : Int), .slice Am nm cm]), (pa, [.int .i64 ka, .slice Aa na ca]), (pb, [.int .i64 kb, .slice Ab nb cb]), (pc, [.int .i64 kc, .slice Ac nc cc]), (w.heap.size + 1, [.int .i64 k, .bool b9, .int .i64 i, .string s, .slice A n c, .slice A2 n2 c2])] := hR29.kept hu2
             clear c0_0 c0_1 cf0 c1_0 c1_1 cf1 c2_0 c2_1 cf2 c3_0 c3_1 cf3 c4_0 c4_1 cf4 c5_0 c5_1 c5_2 c5_3 c5_4 c5_5 cf5 hR29
             have c0_0 := hR30.c 0 0
             have c0_1 := hR30.c 0 1
             have cf0 := hR30.fr 0
             have c1_0 := hR30.c 1 0
             have c1_1 := hR30.c 1 1
             have cf1 := hR30.fr 1
             have c2_0 := hR30.c 2 0
             have c2_1 := hR30.c 2 1
             have cf2 := hR30.fr 2
             have c3_0 := hR30.c 3 0
             have c3_1 := hR30.c 3 1
             have cf3 := hR30.fr 3
             have c4_0 := hR30.c 4 0
             have c4_1 := hR30.c 4 1
             have cf4 := hR30.fr 4
             have c5_0 := hR30.c 5 0
             have c5_1 := hR30.c 5 1
             have c5_2 := hR30.c 5 2
             have c5_3 := hR30.c 5 3
             have c5_4 := hR30.c 5 4
             have c5_5 := hR30.c 5 5
             have cf5 := hR30.fr 5
             replace ra2 := Lib.hid (RVB.at_ ra2.out hu2)
             replace rb2 := Lib.hid (RVB.at_ rb2.out hu2)
             replace rc2 := Lib.hid (RVB.at_ rc2.out hu2)
             replace hRj := Lib.hid (RVB.at_ hRj.out hu2)
             replace hRm := Lib.hid (RVB.at_ hRm.out hu2)
             replace hBW := hBW.trans (hu2.mono hBW.size)
             have CJ := same_any va vb ka Aa na ca kb Ab nb cb u2 hoa hob ra2.out rb2.out
             rw [heq.out] at CJ
             repeat' ((fail_if_success at_builtin); (first | go_skip | go_guarded | go_step))
             refine CJ.mono ?_
             clear CJ
             rintro e u3 ⟨rfl, hu3⟩
             dsimp only
             have hR31 : RdB w u3 [(pj, [.int .i64 ((VT.join va vb).kind : Int), .slice Aj nj cj]), (pm, [.int .i64 ((VT.meet va vb).kind : Int), .slice Am nm cm]), (pa, [.int .i64 ka, .slice Aa na ca]), (pb, [.int .i64 kb, .slice Ab nb cb]), (pc, [.int .i64 kc, .slice Ac nc cc]), (w.heap.size + 1, [.int .i64 k, .bool b9, .int .i64 i, .string s, .slice A n c, .slice A2 n2 c2])] := hR30.kept hu3
             clear c0_0 c0_1 cf0 c1_0 c1_1 cf1 c2_0 c2_1 cf2 c3_0 c3_1 cf3 c4_0 c4_1 cf4 c5_0 c5_1 c5_2 c5_3 c5_4 c5_5 cf5 hR30
             have c0_0 := hR31.c 0 0
             have c0_1 := hR31.c 0 1
             have cf0 := hR31.fr 0
             have c1_0 := hR31.c 1 0
             have c1_1 := hR31.c 1 1
             have cf1 := hR31.fr 1
             have c2_0 := hR31.c 2 0
             have c2_1 := hR31.c 2 1
             have cf2 := hR31.fr 2
             have c3_0 := hR31.c 3 0
             have c3_1 := hR31.c 3 1
             have cf3 := hR31.fr 3
             have c4_0 := hR31.c 4 0
             have c4_1 := hR31.c 4 1
             have cf4 := hR31.fr 4
             have c5_0 := hR31.c 5 0
             have c5_1 := hR31.c 5 1
             have c5_2 := hR31.c 5 2
             have c5_3 := hR31.c 5 3
             have c5_4 := hR31.c 5 4
             have c5_5 := hR31.c 5 5
             have cf5 := hR31.fr 5
             replace ra2 := Lib.hid (RVB.at_ ra2.out hu3)
             replace rb2 := Lib.hid (RVB.at_ rb2.out hu3)
             replace rc2 := Lib.hid (RVB.at_ rc2.out hu3)
             replace hRj := Lib.hid (RVB.at_ hRj.out hu3)
             replace hRm := Lib.hid (RVB.at_ hRm.out hu3)
             replace hBW := hBW.trans (hu3.mono hBW.size)
             repeat' ((fail_if_success at_builtin); (first | go_skip | go_guarded | go_step))
             go_meet
             case rel => exact ⟨_, rfl, rfl, hBW⟩
         case rest => as_aux_lemma =>
          obtain ⟨wx3, hwq, rfl, hbW⟩ := hcut
          subst hwq
          have hR26 : RdB w wx3 [(pj, [.int .i64 ((VT.join va vb).kind : Int), .slice Aj nj cj]), (pm, [.int .i64 ((VT.meet va vb).kind : Int), .slice Am nm cm]), (pa, [.int .i64 ka, .slice Aa na ca]), (pb, [.int .i64 kb, .slice Ab nb cb]), (pc, [.int .i64 kc, .slice Ac nc cc]), (w.heap.size + 1, [.int .i64 k, .bool b9, .int .i64 i, .string s, .slice A n c, .slice A2 n2 c2])] := hR25.kept hbW
          clear c0_0 c0_1 cf0 c1_0 c1_1 cf1 c2_0 c2_1 cf2 c3_0 c3_1 cf3 c4_0 c4_1 cf4 c5_0 c5_1 c5_2 c5_3 c5_4 c5_5 cf5 hR25
          have c0_0 := hR26.c 0 0
          have c0_1 := hR26.c 0 1
          have cf0 := hR26.fr 0
          have c1_0 := hR26.c 1 0
          have c1_1 := hR26.c 1 1
          have cf1 := hR26.fr 1
          have c2_0 := hR26.c 2 0
          have c2_1 := hR26.c 2 1
          have cf2 := hR26.fr 2
          have c3_0 := hR26.c 3 0
          have c3_1 := hR26.c 3 1
          have cf3 := hR26.fr 3
          have c4_0 := hR26.c 4 0
          have c4_1 := hR26.c 4 1
          have cf4 := hR26.fr 4
          have c5_0 := hR26.c 5 0
          have c5_1 := hR26.c 5 1
          have c5_2 := hR26.c 5 2
          have c5_3 := hR26.c 5 3
          have c5_4 := hR26.c 5 4
          have c5_5 := hR26.c 5 5
          have cf5 := hR26.fr 5
          replace ra2 := Lib.hid (RVB.at_ ra2.out hbW)
          replace rb2 := Lib.hid (RVB.at_ rb2.out hbW)
          replace rc2 := Lib.hid (RVB.at_ rc2.out hbW)
          replace hRj := Lib.hid (RVB.at_ hRj.out hbW)
          replace hRm := Lib.hid (RVB.at_ hRm.out hbW)
          replace rv2 := Lib.hid (RVl.at_ rv2.out hbW)
          clear hbW htr han
          go_upto_region 15 with (fail)
          obtain ⟨ev, hev⟩ : ∃ ev, ev = validV v := ⟨_, rfl⟩
          by_cases hz : ev = 0
          ·
           have hok0 : validV v = 0 := by rw [← hev, hz]
           have hfo : fitsS v (ofV va) = subS (ofV (ofS v)) (ofV va) := by unfold fitsS ofS; rw [decide_eq_true hok0, Bool.true_and, if_pos hok0]
           subst hz
           replace hfo := Lib.hid hfo
           replace hev := Lib.hid hev
           have hS0 : (Below wx3.heap.size wx3 wx3 ∧ wx3.cell? ⟨pj, 0, none⟩ = some (.int .i64 ((VT.join va vb).kind : Int)) ∧ wx3.cell? ⟨pj, 1, none⟩ = some (.slice Aj nj cj) ∧ wx3.cell? ⟨pm, 0, none⟩ = some (.int .i64 ((VT.meet va vb).kind : Int)) ∧ wx3.cell? ⟨pm, 1, none⟩ = some (.slice Am nm cm) ∧ wx3.cell? ⟨pa, 0, none⟩ = some (.int .i64 ka) ∧ wx3.cell? ⟨pa, 1, none⟩ = some (.slice Aa na ca) ∧ wx3.cell? ⟨pb, 0, none⟩ = some (.int .i64 kb) ∧ wx3.cell? ⟨pb, 1, none⟩ = some (.slice Ab nb cb) ∧ wx3.cell? ⟨pc, 0, none⟩ = some (.int .i64 kc) ∧ wx3.cell? ⟨pc, 1, none⟩ = some (.slice Ac nc cc) ∧ wx3.cell? ⟨w.heap.size + 1, 0, none⟩ = some (.int .i64 k) ∧ wx3.cell? ⟨w.heap.size + 1, 1, none⟩ = some (.bool b9) ∧ wx3.cell? ⟨w.heap.size + 1, 2, none⟩ = some (.int .i64 i) ∧ wx3.cell? ⟨w.heap.size + 1, 3, none⟩ = some (.string s) ∧ wx3.cell? ⟨w.heap.size + 1, 4, none⟩ = some (.slice A n c) ∧ wx3.cell? ⟨w.heap.size + 1, 5, none⟩ = some (.slice A2 n2 c2)) := ⟨Below.refl _ _, hR26.c 0 0, hR26.c 0 1, hR26.c 1 0, hR26.c 1 1, hR26.c 2 0, hR26.c 2 1, hR26.c 3 0, hR26.c 3 1, hR26.c 4 0, hR26.c 4 1, hR26.c 5 0, hR26.c 5 1, hR26.c 5 2, hR26.c 5 3, hR26.c 5 4, hR26.c 5 5⟩
           have keepS : ∀ v1 v2 : World, (Below wx3.heap.size wx3 v1 ∧ v1.cell? ⟨pj, 0, none⟩ = some (.int .i64 ((VT.join va vb).kind : Int)) ∧ v1.cell? ⟨pj, 1, none⟩ = some (.slice Aj nj cj) ∧ v1.cell? ⟨pm, 0, none⟩ = some (.int .i64 ((VT.meet va vb).kind : Int)) ∧ v1.cell? ⟨pm, 1, none⟩ = some (.slice Am nm cm) ∧ v1.cell? ⟨pa, 0, none⟩ = some (.int .i64 ka) ∧ v1.cell? ⟨pa, 1, none⟩ = some (.slice Aa na ca) ∧ v1.cell? ⟨pb, 0, none⟩ = some (.int .i64 kb) ∧ v1.cell? ⟨pb, 1, none⟩ = some (.slice Ab nb cb) ∧ v1.cell? ⟨pc, 0, none⟩ = some (.int .i64 kc) ∧ v1.cell? ⟨pc, 1, none⟩ = some (.slice Ac nc cc) ∧ v1.cell? ⟨w.heap.size + 1, 0, none⟩ = some (.int .i64 k) ∧ v1.cell? ⟨w.heap.size + 1, 1, none⟩ = some (.bool b9) ∧ v1.cell? ⟨w.heap.size + 1, 2, none⟩ = some (.int .i64 i) ∧ v1.cell? ⟨w.heap.size + 1, 3, none⟩ = some (.string s) ∧ v1.cell? ⟨w.heap.size + 1, 4, none⟩ = some (.slice A n c) ∧ v1.cell? ⟨w.heap.size + 1, 5, none⟩ = some (.slice A2 n2 c2)) → Below v1.heap.size v1 v2 → (Below wx3.heap.size wx3 v2 ∧ v2.cell? ⟨pj, 0, none⟩ = some (.int .i64 ((VT.join va vb).kind : Int)) ∧ v2.cell? ⟨pj, 1, none⟩ = some (.slice Aj nj cj) ∧ v2.cell? ⟨pm, 0, none⟩ = some (.int .i64 ((VT.meet va vb).kind : Int)) ∧ v2.cell? ⟨pm, 1, none⟩ = some (.slice Am nm cm) ∧ v2.cell? ⟨pa, 0, none⟩ = some (.int .i64 ka) ∧ v2.cell? ⟨pa, 1, none⟩ = some (.slice Aa na ca) ∧ v2.cell? ⟨pb, 0, none⟩ = some (.int .i64 kb) ∧ v2.cell? ⟨pb, 1, none⟩ = some (.slice Ab nb cb) ∧ v2.cell? ⟨pc, 0, none⟩ = some (.int .i64 kc) ∧ v2.cell? ⟨pc, 1, none⟩ = some (.slice Ac nc cc) ∧ v2.cell? ⟨w.heap.size + 1, 0, none⟩ = some (.int .i64 k) ∧ v2.cell? ⟨w.heap.size + 1, 1, none⟩ = some (.bool b9) ∧ v2.cell? ⟨w.heap.size + 1, 2, none⟩ = some (.int .i64 i) ∧ v2.cell? ⟨w.heap.size + 1, 3, none⟩ = some (.string s) ∧ v2.cell? ⟨w.heap.size + 1, 4, none⟩ = some (.slice A n c) ∧ v2.cell? ⟨w.heap.size + 1, 5, none⟩ = some (.slice A2 n2 c2)) := fun v1 v2 h hb => ⟨h.1.trans (hb.mono h.1.size), (hR26.kept (h.1.trans (hb.mono h.1.size))).c 0 0, (hR26.kept (h.1.trans (hb.mono h.1.size))).c 0 1, (hR26.kept (h.1.trans (hb.mono h.1.size))).c 1 0, (hR26.kept (h.1.trans (hb.mono h.1.size))).c 1 1, (hR26.kept (h.1.trans (hb.mono h.1.size))).c 2 0, (hR26.kept (h.1.trans (hb.mono h.1.size))).c 2 1, (hR26.kept (h.1.trans (hb.mono h.1.size))).c 3 0, (hR26.kept (h.1.trans (hb.mono h.1.size))).c 3 1, (hR26.kept (h.1.trans (hb.mono h.1.size))).c 4 0, (hR26.kept (h.1.trans (hb.mono h.1.size))).c 4 1, (hR26.kept (h.1.trans (hb.mono h.1.size))).c 5 0, (hR26.kept (h.1.trans (hb.mono h.1.size))).c 5 1, (hR26.kept (h.1.trans (hb.mono h.1.size))).c 5 2, (hR26.kept (h.1.trans (hb.mono h.1.size))).c 5 3, (hR26.kept (h.1.trans (hb.mono h.1.size))).c 5 4, (hR26.kept (h.1.trans (hb.mono h.1.size))).c 5 5⟩
           have hS1 : (Below wx3.heap.size wx3 wx3.drew ∧ wx3.drew.cell? ⟨pj, 0, none⟩ = some (.int .i64 ((VT.join va vb).kind : Int)) ∧ wx3.drew.cell? ⟨pj, 1, none⟩ = some (.slice Aj nj cj) ∧ wx3.drew.cell? ⟨pm, 0, none⟩ = some (.int .i64 ((VT.meet va vb).kind : Int)) ∧ wx3.drew.cell? ⟨pm, 1, none⟩ = some (.slice Am nm cm) ∧ wx3.drew.cell? ⟨pa, 0, none⟩ = some (.int .i64 ka) ∧ wx3.drew.cell? ⟨pa, 1, none⟩ = some (.slice Aa na ca) ∧ wx3.drew.cell? ⟨pb, 0, none⟩ = some (.int .i64 kb) ∧ wx3.drew.cell? ⟨pb, 1, none⟩ = some (.slice Ab nb cb) ∧ wx3.drew.cell? ⟨pc, 0, none⟩ = some (.int .i64 kc) ∧ wx3.drew.cell? ⟨pc, 1, none⟩ = some (.slice Ac nc cc) ∧ wx3.drew.cell? ⟨w.heap.size + 1, 0, none⟩ = some (.int .i64 k) ∧ wx3.drew.cell? ⟨w.heap.size + 1, 1, none⟩ = some (.bool b9) ∧ wx3.drew.cell? ⟨w.heap.size + 1, 2, none⟩ = some (.int .i64 i) ∧ wx3.drew.cell? ⟨w.heap.size + 1, 3, none⟩ = some (.string s) ∧ wx3.drew.cell? ⟨w.heap.size + 1, 4, none⟩ = some (.slice A n c) ∧ wx3.drew.cell? ⟨w.heap.size + 1, 5, none⟩ = some (.slice A2 n2 c2)) := keepS _ _ hS0 ((Below.refl _ _).drew)
           replace keepS := Lib.hid keepS
           clear hS0
           refine wp_region_held_drew (S := fun w' => Below wx3.heap.size wx3 w' ∧ w'.cell? ⟨pj, 0, none⟩ = some (.int .i64 ((VT.join va vb).kind : Int)) ∧ w'.cell? ⟨pj, 1, none⟩ = some (.slice Aj nj cj) ∧ w'.cell? ⟨pm, 0, none⟩ = some (.int .i64 ((VT.meet va vb).kind : Int)) ∧ w'.cell? ⟨pm, 1, none⟩ = some (.slice Am nm cm) ∧ w'.cell? ⟨pa, 0, none⟩ = some (.int .i64 ka) ∧ w'.cell? ⟨pa, 1, none⟩ = some (.slice Aa na ca) ∧ w'.cell? ⟨pb, 0, none⟩ = some (.int .i64 kb) ∧ w'.cell? ⟨pb, 1, none⟩ = some (.slice Ab nb cb) ∧ w'.cell? ⟨pc, 0, none⟩ = some (.int .i64 kc) ∧ w'.cell? ⟨pc, 1, none⟩ = some (.slice Ac nc cc) ∧ w'.cell? ⟨w.heap.size + 1, 0, none⟩ = some (.int .i64 k) ∧ w'.cell? ⟨w.heap.size + 1, 1, none⟩ = some (.bool b9) ∧ w'.cell? ⟨w.heap.size + 1, 2, none⟩ = some (.int .i64 i) ∧ w'.cell? ⟨w.heap.size + 1, 3, none⟩ = some (.string s) ∧ w'.cell? ⟨w.heap.size + 1, 4, none⟩ = some (.slice A n c) ∧ w'.cell? ⟨w.heap.size + 1, 5, none⟩ = some (.slice A2 n2 c2)) (by kernel_rfl) ?_ (fun hHeld => ?_)
           ·
            (try dsimp only)
            exact hS1
           refine tkY 0 (v := ?v111) rfl (.inl ⟨by rfl, ?hy111⟩) ?hr111
           case hy111 => (intro w hSw; (try dsimp only at hSw); go_simp; try with_reducible rfl)
           simp only [Act.put, List.getElem_toArray, List.getElem_cons_zero, List.getElem_cons_succ, List.setIfInBounds_toArray, List.set_cons_zero, List.set_cons_succ]
           refine wpAnyH_ready (rs := [1]) (by kernel_rfl) (by simp) ?_
           refine AllReadyH.cons rfl (fun K hK => ?_) AllReadyH.nil
           go_simp
           go_at_call 25
           have CJ := rvalidV_any gv v k b9 i s A n c A2 n2 c2 _ (RVl.at_ rv2.out hHeld.1)
           rw [← hev.out] at CJ
           refine CJ.mono ?_
           clear CJ
           rintro e r15_1 ⟨rfl, hb15_1⟩
           dsimp only
           have hbq := hb15_1
           refine hK.out _ _ ?_ (fun hHeld => ?_)
           ·
            (try dsimp only)
            exact keepS.out _ _ hHeld hbq
           clear hK K
           try simp only [Act.put, List.getElem_toArray, List.getElem_cons_zero, List.getElem_cons_succ, List.setIfInBounds_toArray, List.set_cons_zero, List.set_cons_succ]
           refine tkY 2 (v := ?v112) rfl (.inl ⟨by rfl, ?hy112⟩) ?hr112
           case hy112 => (intro w hSw; (try dsimp only at hSw); go_simp; try with_reducible rfl)
           simp only [Act.put, List.getElem_toArray, List.getElem_cons_zero, List.getElem_cons_succ, List.setIfInBounds_toArray, List.set_cons_zero, List.set_cons_succ]
           refine tkY 3 (v := ?v113) rfl (.inl ⟨by rfl, ?hy113⟩) ?hr113
           case hy113 => (intro w hSw; (try dsimp only at hSw); go_simp; try with_reducible rfl)
           simp only [Act.put, List.getElem_toArray, List.getElem_cons_zero, List.getElem_cons_succ, List.setIfInBounds_toArray, List.set_cons_zero, List.set_cons_succ]
           refine tkY 4 (v := ?v114) rfl (.inl ⟨by rfl, ?hy114⟩) ?hr114
           case hy114 => (intro w hSw; (try dsimp only at hSw); go_simp; try with_reducible rfl)
           simp only [Act.put, List.getElem_toArray, List.getElem_cons_zero, List.getElem_cons_succ, List.setIfInBounds_toArray, List.set_cons_zero, List.set_cons_succ]
           refine tkY 5 (v := ?v115) rfl (.inl ⟨by rfl, ?hy115⟩) ?hr115
           case hy115 => (intro w hSw; (try dsimp only at hSw); go_simp; try with_reducible rfl)
           simp only [Act.put, List.getElem_toArray, List.getElem_cons_zero, List.getElem_cons_succ, List.setIfInBounds_toArray, List.set_cons_zero, List.set_cons_succ]
           refine tkY 7 (v := ?v116) rfl (.inl ⟨by rfl, ?hy116⟩) ?hr116
           case hy116 => (intro w hSw; (try dsimp only at hSw); go_simp; try with_reducible rfl)
           simp only [Act.put, List.getElem_toArray, List.getElem_cons_zero, List.getElem_cons_succ, List.setIfInBounds_toArray, List.set_cons_zero, List.set_cons_succ]
           refine tkY 9 (v := ?v117) rfl (.inl ⟨by rfl, ?hy117⟩) ?hr117
           case hy117 => (intro w hSw; (try dsimp only at hSw); go_simp; try with_reducible rfl)
           simp only [Act.put, List.getElem_toArray, List.getElem_cons_zero, List.getElem_cons_succ, List.setIfInBounds_toArray, List.set_cons_zero, List.set_cons_succ]
           refine wpAnyH_ready (rs := [6]) (by kernel_rfl) (by simp) ?_
           refine AllReadyH.cons rfl (fun K hK => ?_) AllReadyH.nil
           go_simp
           go_at_call 17
           have CJ := tfits_any gv v k b9 i s A n c A2 n2 c2 _ (ofV va) ka Aa na ca _ (RVl.at_ rv2.out hHeld.1) (RV.ty (RVB.at_ ra2.out hHeld.1))
           rw [hfo.out] at CJ
           refine CJ.mono ?_
           clear CJ
           rintro e r15_6 ⟨rfl, hb15_6⟩
           dsimp only
           have hbq := hb15_6
           refine hK.out _ _ ?_ (fun hHeld => ?_)
           ·
            (try dsimp only)
            exact keepS.out _ _ hHeld hbq
           clear hK K
           try simp only [Act.put, List.getElem_toArray, List.getElem_cons_zero, List.getElem_cons_succ, List.setIfInBounds_toArray, List.set_cons_zero, List.set_cons_succ]
           refine wpAnyH_ready (rs := [8]) (by kernel_rfl) (by simp) ?_
           refine AllReadyH.cons rfl (fun K hK => ?_) AllReadyH.nil
           go_simp
           go_at_call 14
           refine (tof_any gv v k b9 i s A n c A2 n2 c2 _ (RVl.at_ rv2.out hHeld.1)).mono ?_
           rintro e r15_8 ⟨Ao, no_, co, rfl, hNo, hb15_8⟩
           dsimp only
           have hbq := hb15_8
           refine hK.out _ _ ?_ (fun hHeld => ?_)
           ·
            (try dsimp only)
            exact keepS.out _ _ hHeld hbq
           clear hK K
           try simp only [Act.put, List.getElem_toArray, List.getElem_cons_zero, List.getElem_cons_succ, List.setIfInBounds_toArray, List.set_cons_zero, List.set_cons_succ]
           refine wpAnyH_ready (rs := [10]) (by kernel_rfl) (by simp) ?_
           refine AllReadyH.cons rfl (fun K hK => ?_) AllReadyH.nil
           go_simp
           go_at_call 19
           refine (sub_any _ _ (ofV (ofS v)) (ofV va) ((ofS v).kind : Int) Ao no_ co ka Aa na ca _ (RV.ty (new_to hNo)) (RV.ty (RVB.at_ ra2.out hHeld.1))).mono ?_
           rintro e r15_10 ⟨rfl, hb15_10⟩
           dsimp only
           have hbq := hb15_10
           refine hK.out _ _ ?_ (fun hHeld => ?_)
           ·
            (try dsimp only)
            exact keepS.out _ _ hHeld hbq
           clear hK K
           try simp only [Act.put, List.getElem_toArray, List.getElem_cons_zero, List.getElem_cons_succ, List.setIfInBounds_toArray, List.set_cons_zero, List.set_cons_succ]
           refine tkY 11 (v := ?v118) rfl (.inl ⟨by rfl, ?hy118⟩) ?hr118
           case hy118 => (intro w hSw; (try dsimp only at hSw); go_simp; try with_reducible rfl)
           simp only [Act.put, List.getElem_toArray, List.getElem_cons_zero, List.getElem_cons_succ, List.setIfInBounds_toArray, List.set_cons_zero, List.set_cons_succ]
           refine tkY 12 (v := ?v119) rfl (.inl ⟨by rfl, ?hy119⟩) ?hr119
           case hy119 => (intro w hSw; (try dsimp only at hSw); go_simp; try with_reducible rfl)
           simp only [Act.put, List.getElem_toArray, List.getElem_cons_zero, List.getElem_cons_succ, List.setIfInBounds_toArray, List.set_cons_zero, List.set_cons_succ]
           refine wpAnyH_done (by kernel_rfl) ?_ _
           have hb9_ := hR26.below.trans (hHeld.1.mono hR26.below.size)
           repeat' ((fail_if_success at_builtin); (first | go_skip | go_guarded | go_step))
           refine (awake_any _).mono ?_
           rintro e w9 ⟨rfl, hb9⟩
           dsimp only
           have hb := hb9_.trans (hb9.mono hb9_.size)
           repeat' ((fail_if_success at_builtin); (first | go_skip | go_guarded | go_step))
           go_ret
           exact ⟨rfl, hb⟩
          ·
           have hz2 : (ev == 0) = false := by simpa using hz
           replace hev := Lib.hid hev
           replace hz := Lib.hid hz
           have hS0 : (Below wx3.heap.size wx3 wx3 ∧ wx3.cell? ⟨pj, 0, none⟩ = some (.int .i64 ((VT.join va vb).kind : Int)) ∧ wx3.cell? ⟨pj, 1, none⟩ = some (.slice Aj nj cj) ∧ wx3.cell? ⟨pm, 0, none⟩ = some (.int .i64 ((VT.meet va vb).kind : Int)) ∧ wx3.cell? ⟨pm, 1, none⟩ = some (.slice Am nm cm) ∧ wx3.cell? ⟨pa, 0, none⟩ = some (.int .i64 ka) ∧ wx3.cell? ⟨pa, 1, none⟩ = some (.slice Aa na ca) ∧ wx3.cell? ⟨pb, 0, none⟩ = some (.int .i64 kb) ∧ wx3.cell? ⟨pb, 1, none⟩ = some (.slice Ab nb cb) ∧ wx3.cell? ⟨pc, 0, none⟩ = some (.int .i64 kc) ∧ wx3.cell? ⟨pc, 1, none⟩ = some (.slice Ac nc cc) ∧ wx3.cell? ⟨w.heap.size + 1, 0, none⟩ = some (.int .i64 k) ∧ wx3.cell? ⟨w.heap.size + 1, 1, none⟩ = some (.bool b9) ∧ wx3.cell? ⟨w.heap.size + 1, 2, none⟩ = some (.int .i64 i) ∧ wx3.cell? ⟨w.heap.size + 1, 3, none⟩ = some (.string s) ∧ wx3.cell? ⟨w.heap.size + 1, 4, none⟩ = some (.slice A n c) ∧ wx3.cell? ⟨w.heap.size + 1, 5, none⟩ = some (.slice A2 n2 c2)) := ⟨Below.refl _ _, hR26.c 0 0, hR26.c 0 1, hR26.c 1 0, hR26.c 1 1, hR26.c 2 0, hR26.c 2 1, hR26.c 3 0, hR26.c 3 1, hR26.c 4 0, hR26.c 4 1, hR26.c 5 0, hR26.c 5 1, hR26.c 5 2, hR26.c 5 3, hR26.c 5 4, hR26.c 5 5⟩
           have keepS : ∀ v1 v2 : World, (Below wx3.heap.size wx3 v1 ∧ v1.cell? ⟨pj, 0, none⟩ = some (.int .i64 ((VT.join va vb).kind : Int)) ∧ v1.cell? ⟨pj, 1, none⟩ = some (.slice Aj nj cj) ∧ v1.cell? ⟨pm, 0, none⟩ = some (.int .i64 ((VT.meet va vb).kind : Int)) ∧ v1.cell? ⟨pm, 1, none⟩ = some (.slice Am nm cm) ∧ v1.cell? ⟨pa, 0, none⟩ = some (.int .i64 ka) ∧ v1.cell? ⟨pa, 1, none⟩ = some (.slice Aa na ca) ∧ v1.cell? ⟨pb, 0, none⟩ = some (.int .i64 kb) ∧ v1.cell? ⟨pb, 1, none⟩ = some (.slice Ab nb cb) ∧ v1.cell? ⟨pc, 0, none⟩ = some (.int .i64 kc) ∧ v1.cell? ⟨pc, 1, none⟩ = some (.slice Ac nc cc) ∧ v1.cell? ⟨w.heap.size + 1, 0, none⟩ = some (.int .i64 k) ∧ v1.cell? ⟨w.heap.size + 1, 1, none⟩ = some (.bool b9) ∧ v1.cell? ⟨w.heap.size + 1, 2, none⟩ = some (.int .i64 i) ∧ v1.cell? ⟨w.heap.size + 1, 3, none⟩ = some (.string s) ∧ v1.cell? ⟨w.heap.size + 1, 4, none⟩ = some (.slice A n c) ∧ v1.cell? ⟨w.heap.size + 1, 5, none⟩ = some (.slice A2 n2 c2)) → Below v1.heap.size v1 v2 → (Below wx3.heap.size wx3 v2 ∧ v2.cell? ⟨pj, 0, none⟩ = some (.int .i64 ((VT.join va vb).kind : Int)) ∧ v2.cell? ⟨pj, 1, none⟩ = some (.slice Aj nj cj) ∧ v2.cell? ⟨pm, 0, none⟩ = some (.int .i64 ((VT.meet va vb).kind : Int)) ∧ v2.cell? ⟨pm, 1, none⟩ = some (.slice Am nm cm) ∧ v2.cell? ⟨pa, 0, none⟩ = some (.int .i64 ka) ∧ v2.cell? ⟨pa, 1, none⟩ = some (.slice Aa na ca) ∧ v2.cell? ⟨pb, 0, none⟩ = some (.int .i64 kb) ∧ v2.cell? ⟨pb, 1, none⟩ = some (.slice Ab nb cb) ∧ v2.cell? ⟨pc, 0, none⟩ = some (.int .i64 kc) ∧ v2.cell? ⟨pc, 1, none⟩ = some (.slice Ac nc cc) ∧ v2.cell? ⟨w.heap.size + 1, 0, none⟩ = some (.int .i64 k) ∧ v2.cell? ⟨w.heap.size + 1, 1, none⟩ = some (.bool b9) ∧ v2.cell? ⟨w.heap.size + 1, 2, none⟩ = some (.int .i64 i) ∧ v2.cell? ⟨w.heap.size + 1, 3, none⟩ = some (.string s) ∧ v2.cell? ⟨w.heap.size + 1, 4, none⟩ = some (.slice A n c) ∧ v2.cell? ⟨w.heap.size + 1, 5, none⟩ = some (.slice A2 n2 c2)) := fun v1 v2 h hb => ⟨h.1.trans (hb.mono h.1.size), (hR26.kept (h.1.trans (hb.mono h.1.size))).c 0 0, (hR26.kept (h.1.trans (hb.mono h.1.size))).c 0 1, (hR26.kept (h.1.trans (hb.mono h.1.size))).c 1 0, (hR26.kept (h.1.trans (hb.mono h.1.size))).c 1 1, (hR26.kept (h.1.trans (hb.mono h.1.size))).c 2 0, (hR26.kept (h.1.trans (hb.mono h.1.size))).c 2 1, (hR26.kept (h.1.trans (hb.mono h.1.size))).c 3 0, (hR26.kept (h.1.trans (hb.mono h.1.size))).c 3 1, (hR26.kept (h.1.trans (hb.mono h.1.size))).c 4 0, (hR26.kept (h.1.trans (hb.mono h.1.size))).c 4 1, (hR26.kept (h.1.trans (hb.mono h.1.size))).c 5 0, (hR26.kept (h.1.trans (hb.mono h.1.size))).c 5 1, (hR26.kept (h.1.trans (hb.mono h.1.size))).c 5 2, (hR26.kept (h.1.trans (hb.mono h.1.size))).c 5 3, (hR26.kept (h.1.trans (hb.mono h.1.size))).c 5 4, (hR26.kept (h.1.trans (hb.mono h.1.size))).c 5 5⟩
           have hS1 : (Below wx3.heap.size wx3 wx3.drew ∧ wx3.drew.cell? ⟨pj, 0, none⟩ = some (.int .i64 ((VT.join va vb).kind : Int)) ∧ wx3.drew.cell? ⟨pj, 1, none⟩ = some (.slice Aj nj cj) ∧ wx3.drew.cell? ⟨pm, 0, none⟩ = some (.int .i64 ((VT.meet va vb).kind : Int)) ∧ wx3.drew.cell? ⟨pm, 1, none⟩ = some (.slice Am nm cm) ∧ wx3.drew.cell? ⟨pa, 0, none⟩ = some (.int .i64 ka) ∧ wx3.drew.cell? ⟨pa, 1, none⟩ = some (.slice Aa na ca) ∧ wx3.drew.cell? ⟨pb, 0, none⟩ = some (.int .i64 kb) ∧ wx3.drew.cell? ⟨pb, 1, none⟩ = some (.slice Ab nb cb) ∧ wx3.drew.cell? ⟨pc, 0, none⟩ = some (.int .i64 kc) ∧ wx3.drew.cell? ⟨pc, 1, none⟩ = some (.slice Ac nc cc) ∧ wx3.drew.cell? ⟨w.heap.size + 1, 0, none⟩ = some (.int .i64 k) ∧ wx3.drew.cell? ⟨w.heap.size + 1, 1, none⟩ = some (.bool b9) ∧ wx3.drew.cell? ⟨w.heap.size + 1, 2, none⟩ = some (.int .i64 i) ∧ wx3.drew.cell? ⟨w.heap.size + 1, 3, none⟩ = some (.string s) ∧ wx3.drew.cell? ⟨w.heap.size + 1, 4, none⟩ = some (.slice A n c) ∧ wx3.drew.cell? ⟨w.heap.size + 1, 5, none⟩ = some (.slice A2 n2 c2)) := keepS _ _ hS0 ((Below.refl _ _).drew)
           replace keepS := Lib.hid keepS
           clear hS0
           refine wp_region_held_drew (S := fun w' => Below wx3.heap.size wx3 w' ∧ w'.cell? ⟨pj, 0, none⟩ = some (.int .i64 ((VT.join va vb).kind : Int)) ∧ w'.cell? ⟨pj, 1, none⟩ = some (.slice Aj nj cj) ∧ w'.cell? ⟨pm, 0, none⟩ = some (.int .i64 ((VT.meet va vb).kind : Int)) ∧ w'.cell? ⟨pm, 1, none⟩ = some (.slice Am nm cm) ∧ w'.cell? ⟨pa, 0, none⟩ = some (.int .i64 ka) ∧ w'.cell? ⟨pa, 1, none⟩ = some (.slice Aa na ca) ∧ w'.cell? ⟨pb, 0, none⟩ = some (.int .i64 kb) ∧ w'.cell? ⟨pb, 1, none⟩ = some (.slice Ab nb cb) ∧ w'.cell? ⟨pc, 0, none⟩ = some (.int .i64 kc) ∧ w'.cell? ⟨pc, 1, none⟩ = some (.slice Ac nc cc) ∧ w'.cell? ⟨w.heap.size + 1, 0, none⟩ = some (.int .i64 k) ∧ w'.cell? ⟨w.heap.size + 1, 1, none⟩ = some (.bool b9) ∧ w'.cell? ⟨w.heap.size + 1, 2, none⟩ = some (.int .i64 i) ∧ w'.cell? ⟨w.heap.size + 1, 3, none⟩ = some (.string s) ∧ w'.cell? ⟨w.heap.size + 1, 4, none⟩ = some (.slice A n c) ∧ w'.cell? ⟨w.heap.size + 1, 5, none⟩ = some (.slice A2 n2 c2)) (by kernel_rfl) ?_ (fun hHeld => ?_)
           ·
            (try dsimp only)
            exact hS1
           refine tkY 0 (v := ?v120) rfl (.inl ⟨by rfl, ?hy120⟩) ?hr120
           case hy120 => (intro w hSw; (try dsimp only at hSw); go_simp; try with_reducible rfl)
           simp only [Act.put, List.getElem_toArray, List.getElem_cons_zero, List.getElem_cons_succ, List.setIfInBounds_toArray, List.set_cons_zero, List.set_cons_succ]
           refine wpAnyH_ready (rs := [1]) (by kernel_rfl) (by simp) ?_
           refine AllReadyH.cons rfl (fun K hK => ?_) AllReadyH.nil
           go_simp
           go_at_call 25
           have CJ := rvalidV_any gv v k b9 i s A n c A2 n2 c2 _ (RVl.at_ rv2.out hHeld.1)
           rw [← hev.out] at CJ
           refine CJ.mono ?_
           clear CJ
           rintro e r15_1 ⟨rfl, hb15_1⟩
           dsimp only
           have hbq := hb15_1
           refine hK.out _ _ ?_ (fun hHeld => ?_)
           ·
            (try dsimp only)
            exact keepS.out _ _ hHeld hbq
           clear hK K
           try simp only [Act.put, List.getElem_toArray, List.getElem_cons_zero, List.getElem_cons_succ, List.setIfInBounds_toArray, List.set_cons_zero, List.set_cons_succ]
           refine tkY 2 (v := .bool false) rfl (.inl ⟨by rfl, ?hy121⟩) ?hr121
           case hy121 => (intro w hSw; (try dsimp only at hSw); go_simp; first | done | (simp [hz2]; done) | exact hz.out | simpa using hz.out)
           simp only [Act.put, List.getElem_toArray, List.getElem_cons_zero, List.getElem_cons_succ, List.setIfInBounds_toArray, List.set_cons_zero, List.set_cons_succ]
           refine tkY 3 (v := ?v122) rfl (.inl ⟨by rfl, ?hy122⟩) ?hr122
           case hy122 => (intro w hSw; (try dsimp only at hSw); go_simp; try with_reducible rfl)
           simp only [Act.put, List.getElem_toArray, List.getElem_cons_zero, List.getElem_cons_succ, List.setIfInBounds_toArray, List.set_cons_zero, List.set_cons_succ]
           refine tkN 4 rfl ?_
           simp only [Act.put, List.getElem_toArray, List.getElem_cons_zero, List.getElem_cons_succ, List.setIfInBounds_toArray, List.set_cons_zero, List.set_cons_succ]
           refine tkN 5 rfl ?_
           simp only [Act.put, List.getElem_toArray, List.getElem_cons_zero, List.getElem_cons_succ, List.setIfInBounds_toArray, List.set_cons_zero, List.set_cons_succ]
           refine tkN 6 rfl ?_
           simp only [Act.put, List.getElem_toArray, List.getElem_cons_zero, List.getElem_cons_succ, List.setIfInBounds_toArray, List.set_cons_zero, List.set_cons_succ]
           refine tkN 7 rfl ?_
           simp only [Act.put, List.getElem_toArray, List.getElem_cons_zero, List.getElem_cons_succ, List.setIfInBounds_toArray, List.set_cons_zero, List.set_cons_succ]
           refine tkN 8 rfl ?_
           simp only [Act.put, List.getElem_toArray, List.getElem_cons_zero, List.getElem_cons_succ, List.setIfInBounds_toArray, List.set_cons_zero, List.set_cons_succ]
           refine tkN 9 rfl ?_
           simp only [Act.put, List.getElem_toArray, List.getElem_cons_zero, List.getElem_cons_succ, List.setIfInBounds_toArray, List.set_cons_zero, List.set_cons_succ]
           refine tkN 10 rfl ?_
           simp only [Act.put, List.getElem_toArray, List.getElem_cons_zero, List.getElem_cons_succ, List.setIfInBounds_toArray, List.set_cons_zero, List.set_cons_succ]
           refine tkN 11 rfl ?_
           simp only [Act.put, List.getElem_toArray, List.getElem_cons_zero, List.getElem_cons_succ, List.setIfInBounds_toArray, List.set_cons_zero, List.set_cons_succ]
           refine tkY 12 (v := ?v123) rfl (.inl ⟨by rfl, ?hy123⟩) ?hr123
           case hy123 => (intro w hSw; (try dsimp only at hSw); go_simp; try with_reducible rfl)
           simp only [Act.put, List.getElem_toArray, List.getElem_cons_zero, List.getElem_cons_succ, List.setIfInBounds_toArray, List.set_cons_zero, List.set_cons_succ]
           refine wpAnyH_done (by kernel_rfl) ?_ _
           have hb9_ := hR26.below.trans (hHeld.1.mono hR26.below.size)
           repeat' ((fail_if_success at_builtin); (first | go_skip | go_guarded | go_step))
           refine (awake_any _).mono ?_
           rintro e w9 ⟨rfl, hb9⟩
           dsimp only
           have hb := hb9_.trans (hb9.mono hb9_.size)
           repeat' ((fail_if_success at_builtin); (first | go_skip | go_guarded | go_step))
           go_ret
           exact ⟨rfl, hb⟩
end Go.Proofs.YtgcpffbaejodiaaDoor
