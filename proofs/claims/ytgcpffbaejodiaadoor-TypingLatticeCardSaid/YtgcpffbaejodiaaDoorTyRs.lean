/- Typing: the document's Show. -/
import Derived.Test.YtgcpffbaejodiaaDoorTySh
namespace Go.Proofs.YtgcpffbaejodiaaDoor
open Go.RowKit
set_option maxRecDepth 100000 in
set_option maxHeartbeats 2000000 in
theorem rnameI_any (k : Int) (w : World) (hk : 0 ≤ k) (hk7 : k ≤ 7) : Calls Tryd.prog 60 #[.int .i64 k] w fun e w' => e = .returned (.string (strS (nameZ k))) ∧ Below w.heap.size w w' := by
 have hb := Below.refl w.heap.size w
 by_cases h0 : k = 0
 ·
  subst h0
  go_enter Tryd.func60, Tryd.ntmps60
  repeat' ((fail_if_success at_builtin); (first | go_skip | go_guarded | go_step))
  go_ret
  exact ⟨rfl, hb⟩
 by_cases h1 : k = 1
 ·
  subst h1
  go_enter Tryd.func60, Tryd.ntmps60
  repeat' ((fail_if_success at_builtin); (first | go_skip | go_guarded | go_step))
  go_ret
  exact ⟨rfl, hb⟩
 by_cases h2 : k = 2
 ·
  subst h2
  go_enter Tryd.func60, Tryd.ntmps60
  repeat' ((fail_if_success at_builtin); (first | go_skip | go_guarded | go_step))
  go_ret
  exact ⟨rfl, hb⟩
 by_cases h3 : k = 3
 ·
  subst h3
  go_enter Tryd.func60, Tryd.ntmps60
  repeat' ((fail_if_success at_builtin); (first | go_skip | go_guarded | go_step))
  go_ret
  exact ⟨rfl, hb⟩
 by_cases h4 : k = 4
 ·
  subst h4
  go_enter Tryd.func60, Tryd.ntmps60
  repeat' ((fail_if_success at_builtin); (first | go_skip | go_guarded | go_step))
  go_ret
  exact ⟨rfl, hb⟩
 by_cases h5 : k = 5
 ·
  subst h5
  go_enter Tryd.func60, Tryd.ntmps60
  repeat' ((fail_if_success at_builtin); (first | go_skip | go_guarded | go_step))
  go_ret
  exact ⟨rfl, hb⟩
 by_cases h6 : k = 6
 ·
  subst h6
  go_enter Tryd.func60, Tryd.ntmps60
  repeat' ((fail_if_success at_builtin); (first | go_skip | go_guarded | go_step))
  go_ret
  exact ⟨rfl, hb⟩
 obtain rfl : k = 7 := by omega
 go_enter Tryd.func60, Tryd.ntmps60
 repeat' ((fail_if_success at_builtin); (first | go_skip | go_guarded | go_step))
 go_ret
 exact ⟨rfl, hb⟩
theorem rname_any {k : Nat} (hk : k ≤ 7) (w : World) : Calls Tryd.prog 60 #[.int .i64 (k : Int)] w fun e w' => e = .returned (.string (strS (VT.nameK k))) ∧ Below w.heap.size w w' := by
 have := rnameI_any (k : Int) w (by omega) (by omega)
 rwa [nameZ_nat hk] at this
set_option maxRecDepth 100000 in
set_option maxHeartbeats 4000000 in
theorem rtext_any (v : VT) : ∀ (x : Int) (A : Option Addr) (n c : Nat) (w : World), v.Ok → v.depth ≤ 100 → RVB w w.heap.size v [.int .i64 x, .slice A n c] →
  Calls Tryd.prog 51 #[.agg #[.int .i64 x, .slice A n c]] w fun e w' => e = .returned (.string (strS (VT.text v))) ∧ Below w.heap.size w w' := by
 induction v with
 | base k =>
  intro x A n c w hok hd h
  obtain ⟨rfl, rfl, _⟩ := rv_base h
  rw [text_base]
  have hho := holds_base hok
  have hkl : k ≤ 7 := hok.1
  go_enter Tryd.func51, Tryd.ntmps51
  go_upto_region 1 with (fail)
  generalize hx_ : World.alloc w _ = wo1
  have hO1 : OwnB w wo1 [(w.heap.size, [.int .i64 (k : Int), .slice A 0 c])] := by rw [← hx_]; exact (OwnB.refl w).new #[.int .i64 (k : Int), .slice A 0 c] _ (g := w.heap.size)
  clear hx_
  have c0_0 := hO1.c 0 0
  have c0_1 := hO1.c 0 1
  have cf0 := hO1.fr 0
  repeat' ((fail_if_success at_builtin); (first | go_skip | go_guarded | go_step))
  refine (holds_any (k : Int) _).mono ?_
  rintro e w2 ⟨rfl, hb2⟩
  rw [hho]
  dsimp only
  have hO2 : OwnB w w2 [(w.heap.size, [.int .i64 (k : Int), .slice A 0 c])] := hO1.kept hb2
  clear c0_0 c0_1 cf0 hO1
  have c0_0 := hO2.c 0 0
  have c0_1 := hO2.c 0 1
  have cf0 := hO2.fr 0
  repeat' ((fail_if_success at_builtin); (first | go_skip | go_guarded | go_step))
  refine (rname_any hkl _).mono ?_
  rintro e w3 ⟨rfl, hb3⟩
  dsimp only
  have hb := hO2.below.trans (hb3.mono hO2.below.size)
  repeat' ((fail_if_success at_builtin); (first | go_skip | go_guarded | go_step))
  go_ret
  exact ⟨rfl, hb⟩
 | of k e ih =>
  intro x A n c w hok hd h
  obtain ⟨rfl, rfl, hc1, b, oo, A1, n1, c1, rfl, hbS, y0, y1, hre⟩ := rv_of h
  have hho := holds_of hok
  have hkl : k ≤ 7 := kind_le hok
  have hde : (VT.of k e).depth = e.depth + 1 := rfl
  have hnl := nameK_len k
  have htl := text_len e
  have CT := fun w' (hq : OwnB w w' [(w.heap.size, [.int .i64 (k : Int), .slice (some ⟨b, oo, none⟩) 1 c])]) => ih (e.kind : Int) A1 n1 c1 w' hok.2 (by omega) ((hre.map (fun _ hp => hq.below.cell hp) (fun b hb => Nat.lt_of_lt_of_le hb hq.below.size)))
  have CN := fun w' => rname_any hkl w'
  rw [text_of]
  replace ih := Lib.hid ih
  replace CT := Lib.hid CT
  generalize VT.nameK k = nm at *
  generalize VT.text e = te at *
  replace CN := Lib.hid CN
  have sz1 : ¬ 9223372036854775807 < nm.length + 1 := by omega
  have sz2 : ¬ 9223372036854775807 < nm.length + 1 + te.length := by omega
  have sz3 : ¬ 9223372036854775807 < nm.length + 1 + te.length + 1 := by omega
  go_enter Tryd.func51, Tryd.ntmps51
  go_upto_region 1 with (fail)
  generalize hx_ : World.alloc w _ = wo1
  have hO1 : OwnB w wo1 [(w.heap.size, [.int .i64 (k : Int), .slice (some ⟨b, oo, none⟩) 1 c])] := by rw [← hx_]; exact (OwnB.refl w).new #[.int .i64 (k : Int), .slice (some ⟨b, oo, none⟩) 1 c] _ (g := w.heap.size)
  clear hx_
  have c0_0 := hO1.c 0 0
  have c0_1 := hO1.c 0 1
  have cf0 := hO1.fr 0
  repeat' ((fail_if_success at_builtin); (first | go_skip | go_guarded | go_step))
  refine (holds_any (k : Int) _).mono ?_
  rintro e2 w2 ⟨rfl, hb2⟩
  rw [hho]
  dsimp only
  have hO2 : OwnB w w2 [(w.heap.size, [.int .i64 (k : Int), .slice (some ⟨b, oo, none⟩) 1 c])] := hO1.kept hb2
  clear c0_0 c0_1 cf0 hO1
  have c0_0 := hO2.c 0 0
  have c0_1 := hO2.c 0 1
  have cf0 := hO2.fr 0
  have keepS : ∀ v1 v2 : World, (OwnB w v1 [(w.heap.size, [.int .i64 (k : Int), .slice (some ⟨b, oo, none⟩) 1 c])] ∧ v1.cell? ⟨w.heap.size, 0, none⟩ = some (.int .i64 (k : Int)) ∧ v1.cell? ⟨w.heap.size, 1, none⟩ = some (.slice (some ⟨b, oo, none⟩) 1 c) ∧ v1.cell? ⟨b, oo, none⟩ = some (.int .i64 (e.kind : Int)) ∧ v1.cell? ⟨b, oo + 1, none⟩ = some (.slice A1 n1 c1)) → Below v1.heap.size v1 v2 → (OwnB w v2 [(w.heap.size, [.int .i64 (k : Int), .slice (some ⟨b, oo, none⟩) 1 c])] ∧ v2.cell? ⟨w.heap.size, 0, none⟩ = some (.int .i64 (k : Int)) ∧ v2.cell? ⟨w.heap.size, 1, none⟩ = some (.slice (some ⟨b, oo, none⟩) 1 c) ∧ v2.cell? ⟨b, oo, none⟩ = some (.int .i64 (e.kind : Int)) ∧ v2.cell? ⟨b, oo + 1, none⟩ = some (.slice A1 n1 c1)) := fun v1 v2 h hb => ⟨h.1.kept hb, (h.1.kept hb).c 0 0, (h.1.kept hb).c 0 1, ((h.1.kept hb).below.cell (p := ⟨b, oo, none⟩) hbS).trans y0, ((h.1.kept hb).below.cell (p := ⟨b, oo + 1, none⟩) hbS).trans y1⟩
  have hS1 : (OwnB w w2.drew [(w.heap.size, [.int .i64 (k : Int), .slice (some ⟨b, oo, none⟩) 1 c])] ∧ w2.drew.cell? ⟨w.heap.size, 0, none⟩ = some (.int .i64 (k : Int)) ∧ w2.drew.cell? ⟨w.heap.size, 1, none⟩ = some (.slice (some ⟨b, oo, none⟩) 1 c) ∧ w2.drew.cell? ⟨b, oo, none⟩ = some (.int .i64 (e.kind : Int)) ∧ w2.drew.cell? ⟨b, oo + 1, none⟩ = some (.slice A1 n1 c1)) := keepS w2 _ ⟨hO2, hO2.c 0 0, hO2.c 0 1, (hO2.below.cell (p := ⟨b, oo, none⟩) hbS).trans y0, (hO2.below.cell (p := ⟨b, oo + 1, none⟩) hbS).trans y1⟩ ((Below.refl _ _).drew)
  replace keepS := Lib.hid keepS
  clear hho y0 y1 h hre hok
  go_upto_region 2 with (fail)
  refine wp_region_held_drew (S := fun w' => OwnB w w' [(w.heap.size, [.int .i64 (k : Int), .slice (some ⟨b, oo, none⟩) 1 c])] ∧ w'.cell? ⟨w.heap.size, 0, none⟩ = some (.int .i64 (k : Int)) ∧ w'.cell? ⟨w.heap.size, 1, none⟩ = some (.slice (some ⟨b, oo, none⟩) 1 c) ∧ w'.cell? ⟨b, oo, none⟩ = some (.int .i64 (e.kind : Int)) ∧ w'.cell? ⟨b, oo + 1, none⟩ = some (.slice A1 n1 c1)) (by kernel_rfl) ?_ (fun hHeld => ?_)
  ·
   (try dsimp only)
   exact hS1
  refine tkY 0 (v := ?v18) rfl (.inl ⟨by rfl, ?hy18⟩) ?rest18
  case hy18 => (intro w hSw; (try dsimp only at hSw); go_simp; try with_reducible rfl)
  simp only [Act.put, List.getElem_toArray, List.getElem_cons_zero, List.setIfInBounds_toArray, List.set_cons_zero, List.set_cons_succ]
  refine tkY 1 (v := ?v19) rfl (.inl ⟨by rfl, ?hy19⟩) ?rest19
  case hy19 => (intro w hSw; (try dsimp only at hSw); go_simp; try with_reducible rfl)
  simp only [Act.put, List.getElem_toArray, List.getElem_cons_zero, List.getElem_cons_succ, List.setIfInBounds_toArray, List.set_cons_zero, List.set_cons_succ]
  refine tkY 4 (v := ?v20) rfl (.inl ⟨by rfl, ?hy20⟩) ?rest20
  case hy20 => (intro w hSw; (try dsimp only at hSw); go_simp; try with_reducible rfl)
  simp only [Act.put, List.getElem_toArray, List.getElem_cons_zero, List.getElem_cons_succ, List.setIfInBounds_toArray, List.set_cons_zero, List.set_cons_succ]
  refine tkY 5 (v := ?v21) rfl (.inl ⟨by rfl, ?hy21⟩) ?rest21
  case hy21 => (intro w hSw; (try dsimp only at hSw); go_simp; try with_reducible rfl)
  simp only [Act.put, List.getElem_toArray, List.getElem_cons_zero, List.getElem_cons_succ, List.setIfInBounds_toArray, List.set_cons_zero, List.set_cons_succ]
  refine tkY 6 (v := ?v22) rfl (.inl ⟨by rfl, ?hy22⟩) ?rest22
  case hy22 => (intro w hSw; (try dsimp only at hSw); go_simp; try with_reducible rfl)
  simp only [Act.put, List.getElem_toArray, List.getElem_cons_zero, List.getElem_cons_succ, List.setIfInBounds_toArray, List.set_cons_zero, List.set_cons_succ]
  refine tkY 7 (v := ?v23) rfl (.inl ⟨by rfl, ?hy23⟩) ?rest23
  case hy23 => (intro w hSw; (try dsimp only at hSw); go_simp; try with_reducible rfl)
  simp only [Act.put, List.getElem_toArray, List.getElem_cons_zero, List.getElem_cons_succ, List.setIfInBounds_toArray, List.set_cons_zero, List.set_cons_succ]
  refine wpAnyH_ready (rs := [2]) (by kernel_rfl) (by simp) ?_
  refine AllReadyH.cons rfl (fun K hK => ?_) AllReadyH.nil
  go_simp
  go_at_call 60
  refine (CN.out _).mono ?_
  rintro e7 w7 ⟨rfl, hbq⟩
  dsimp only
  refine hK.out _ _ ?_ (fun hHeld => ?_)
  ·
   (try dsimp only)
   exact keepS.out _ _ hHeld hbq
  clear hK K
  try simp only [Act.put, List.getElem_toArray, List.getElem_cons_zero, List.getElem_cons_succ, List.setIfInBounds_toArray, List.set_cons_zero, List.set_cons_succ]
  refine tkY 3 (v := ?v24) rfl (.inl ⟨by rfl, ?hy24⟩) ?rest24
  case hy24 => (intro w hSw; (try dsimp only at hSw); go_simp; try with_reducible rfl)
  simp only [Act.put, List.getElem_toArray, List.getElem_cons_zero, List.getElem_cons_succ, List.setIfInBounds_toArray, List.set_cons_zero, List.set_cons_succ]
  refine wpAnyH_ready (rs := [8]) (by kernel_rfl) (by simp) ?_
  refine AllReadyH.cons rfl (fun K hK => ?_) AllReadyH.nil
  go_simp
  go_at_call 51
  refine (CT.out _ hHeld.1).mono ?_
  rintro e7 w7 ⟨rfl, hbq⟩
  dsimp only
  refine hK.out _ _ ?_ (fun hHeld => ?_)
  ·
   (try dsimp only)
   exact keepS.out _ _ hHeld hbq
  clear hK K
  try simp only [Act.put, List.getElem_toArray, List.getElem_cons_zero, List.getElem_cons_succ, List.setIfInBounds_toArray, List.set_cons_zero, List.set_cons_succ]
  refine tkY 9 (v := ?v25) rfl (.inl ⟨by rfl, ?hy25⟩) ?rest25
  case hy25 => (intro w hSw; (try dsimp only at hSw); go_simp; try with_reducible rfl)
  simp only [Act.put, List.getElem_toArray, List.getElem_cons_zero, List.getElem_cons_succ, List.setIfInBounds_toArray, List.set_cons_zero, List.set_cons_succ]
  refine tkY 10 (v := ?v26) rfl (.inl ⟨by rfl, ?hy26⟩) ?rest26
  case hy26 => (intro w hSw; (try dsimp only at hSw); go_simp; try with_reducible rfl)
  simp only [Act.put, List.getElem_toArray, List.getElem_cons_zero, List.getElem_cons_succ, List.setIfInBounds_toArray, List.set_cons_zero, List.set_cons_succ]
  refine tkY 11 (v := ?v27) rfl (.inl ⟨by rfl, ?hy27⟩) ?rest27
  case hy27 => (intro w hSw; (try dsimp only at hSw); go_simp; try with_reducible rfl)
  simp only [Act.put, List.getElem_toArray, List.getElem_cons_zero, List.getElem_cons_succ, List.setIfInBounds_toArray, List.set_cons_zero, List.set_cons_succ]
  refine wpAnyH_done (by kernel_rfl) ?_ _
  have hb := hHeld.1.below
  repeat' ((fail_if_success at_builtin); (first | go_skip | go_guarded | go_step))
  go_ret
  exact ⟨retS (by rw [show (⟨#[40]⟩ : ByteArray) = strS [40] from rfl, show (⟨#[41]⟩ : ByteArray) = strS [41] from rfl, strS_app, strS_app, strS_app]; simp), hb⟩
set_option maxRecDepth 100000 in
set_option maxHeartbeats 4000000 in
theorem rshow_any (g : Nat) (t : Ty) (k : Int) (A : Option Addr) (n c : Nat) (w : World) (h : RTf g w (fun b => b < w.heap.size) t [.int .i64 k, .slice A n c]) :
  Calls Tryd.prog 29 #[.agg #[.int .i64 k, .slice A n c]] w fun e w' => e = .returned (.string (strS (showS t))) ∧ Below w.heap.size w w' := by
 obtain ⟨fin, hfin⟩ : ∃ fin, fin = showS t := ⟨_, rfl⟩
 replace hfin := Lib.hid hfin
 go_enter Tryd.func29, Tryd.ntmps29
 go_upto_region 1 with (fail)
 generalize hx_ : World.alloc w _ = wo1
 have hO1 : OwnB w wo1 [(w.heap.size, [.int .i64 k, .slice A n c])] := by rw [← hx_]; exact (OwnB.refl w).new #[.int .i64 k, .slice A n c] _ (g := w.heap.size)
 clear hx_
 have c0_0 := hO1.c 0 0
 have c0_1 := hO1.c 0 1
 have cf0 := hO1.fr 0
 have h1 := Lib.hid (RTf.at_ h hO1.below)
 repeat' ((fail_if_success at_builtin); (first | go_skip | go_guarded | go_step))
 refine (rvalid_any g t k A n c _ h1.out).mono ?_
 rintro e w2 ⟨rfl, hb2⟩
 dsimp only
 have hO2 : OwnB w w2 [(w.heap.size, [.int .i64 k, .slice A n c])] := hO1.kept hb2
 clear c0_0 c0_1 cf0 hO1
 have c0_0 := hO2.c 0 0
 have c0_1 := hO2.c 0 1
 have cf0 := hO2.fr 0
 have hb := hO2.below
 cases hok : okV t with
 | none =>
  have hz := okV_none hok
  have hz2 : (validT t == 0) = false := by simpa using hz
  have hf : fin = [] := by rw [hfin.out]; unfold showS; rw [hok]
  replace hf := Lib.hid hf
  clear hz hok
  generalize validT t = vt at *
  repeat' ((fail_if_success at_builtin); (first | go_skip | go_guarded | go_step))
  go_ret
  exact ⟨retS (by rw [← hfin.out, hf.out]), hb⟩
 | some v =>
  have hf : fin = VT.text v := by rw [hfin.out]; unfold showS; rw [hok]
  obtain ⟨hz, hvo, hvd, rfl⟩ := okV_some hok
  have hr := Lib.hid (RTf.valid (RTf.at_ h hb))
  rw [hz]
  replace hf := Lib.hid hf
  clear hz hok h1 h
  repeat' ((fail_if_success at_builtin); (first | go_skip | go_guarded | go_step))
  refine (rtext_any v k A n c _ hvo (by omega) hr.out).mono ?_
  rintro e w3 ⟨rfl, hb3⟩
  dsimp only
  have hb9 := hb.trans (hb3.mono hb.size)
  repeat' ((fail_if_success at_builtin); (first | go_skip | go_guarded | go_step))
  go_ret
  exact ⟨retS (by rw [← hfin.out, hf.out]), hb9⟩
end Go.Proofs.YtgcpffbaejodiaaDoor
