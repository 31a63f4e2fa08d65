/- Secret: the laws about Visible and Levels. -/
import Derived.Test.YtgloblokkejgmaaDoorSeL3
namespace Go.Proofs.YtgloblokkejgmaaDoor
open Go.RowKit
theorem vis_each {names : List ByteArray} {o : Org} {t : Int} {env : ByteArray} {l : List Sec} {x : Sec} (h : x ∈ visB names o t env l) : ¬ t < x.level ∧ (o.fork = true → ¬ 0 < x.level) ∧ hasL names x.name = true := by
  have h1 := vis_ok h
  have h2 := names_has names x
  exact ⟨by omega, fun hf => by have := h1.2.1 hf; omega, by rw [← h2]; exact h1.2.2⟩
set_option maxRecDepth 100000 in
set_option maxHeartbeats 6000000 in
theorem visible_law (l : List Sec) (A : Option Addr) (n c : Nat) (o : Org) (t : Int) (J : List Value) (names : List ByteArray) (AN : Option Addr) (cN : Nat) (env : ByteArray) (w : World) (h : SecsB w A n c l) (hJ : JobC w J names AN cN env) :
    Calls Tryd.prog 7 #[.slice A n c, .agg (caseL o t J).toArray] w fun e w' => e = .returned (.bool true) ∧ Below w.heap.size w w' := by
  go_enter Tryd.func7, Tryd.ntmps7
  go_upto_region 1 with (fail)
  have hCr := range_new w (caseL o t J) 59
  have hbz := (Below.refl w.heap.size w).alloc (Nat.le_refl _) (.cells (caseL o t J).toArray 59)
  have hsz : w.heap.size < (w.alloc (.cells (caseL o t J).toArray 59)).heap.size := by simp
  generalize World.alloc w _ = w0 at hCr hbz hsz ⊢
  have C := caseSmall_any l A n c o t J names AN cN env w0 (h.below hbz) (hJ.up hbz)
  replace C := Lib.hid C
  repeat' ((fail_if_success at_builtin); (first | (refine wpList_load_midG 59 _ rfl w.heap.size 0 rfl (by rfl) (caseL o t J) _ hCr Tryd.underlying59 rfl (case_info hJ o t) ?_) | go_skip | go_guarded | go_step))
  refine C.out.mono ?_
  clear C
  rintro e w1 ⟨rfl, hb1⟩
  dsimp only
  have hCr1 := range_up hCr hb1 hsz
  have hbw := hbz.trans (hb1.mono hbz.size)
  have hcl : w.heap.size < w1.heap.size := Nat.lt_of_lt_of_le hsz hb1.size
  clear hCr hbz hb1 hsz
  cases hs : smallC l names o env with
  | false =>
    repeat' ((fail_if_success at_builtin); (first | go_skip | go_guarded | go_step))
    refine (lives_any _).mono ?_
    rintro e wl ⟨rfl, hbl⟩
    dsimp only
    have hbf := hbw.trans (hbl.mono hbw.size)
    repeat' ((fail_if_success at_builtin); (first | go_skip | go_guarded | go_step))
    go_ret
    exact ⟨rfl, hbf⟩
  | true =>
    obtain ⟨hsm, hn70, hr2, he2⟩ := smallC_out hs
    have hS := (h.below hbw).secs hsm
    have hJv := hJ.v hn70 he2
    have hNr := hJ.rd.upB hbw
    have hO : OrgW o := ⟨by omega⟩
    clear hs hsm
    have y0 := case_cell hCr1 0 (v := .string o.prj) rfl
    have y1 := case_cell hCr1 1 (v := .string o.ref) rfl
    have y2 := case_cell hCr1 2 (v := .bool o.fork) rfl
    have y3 := case_cell hCr1 3 (v := .int .i64 t) rfl
    have hJr := case_job hCr1
    have CV := fun v (hv : Below w1.heap.size w1 v) => visible_any l A n c o t env J names AN cN v (hS.below hv) hJv (hNr.upB hv) hO
    have CQ := fun v (hv : Below w1.heap.size w1 v) => refVisible_any l A n c o t env J names AN cN v (hS.below hv) hJv (hNr.upB hv) hO
    have CM := fun v (hv : Below w1.heap.size w1 v) => missing_any l A n c o t env J names AN cN v (hS.below hv) hJv (hNr.upB hv) hO
    have CN := fun v (hv : Below w1.heap.size w1 v) => refMissing_any l A n c o t env J names AN cN v (hS.below hv) hJv (hNr.upB hv) hO
    have hml := miss_len (v := visB names o t env l) (names := names)
    generalize missL (visB names o t env l) names = ml at *
    generalize visB names o t env l = vl at *
    replace CV := Lib.hid CV
    replace CQ := Lib.hid CQ
    replace CM := Lib.hid CM
    replace CN := Lib.hid CN
    have hS0 : (Below w1.heap.size w1 w1 ∧ w1.cell? ⟨w.heap.size, 0, none⟩ = some (.string o.prj) ∧ w1.cell? ⟨w.heap.size, 1, none⟩ = some (.string o.ref) ∧ w1.cell? ⟨w.heap.size, 2, none⟩ = some (.bool o.fork) ∧ w1.cell? ⟨w.heap.size, 3, none⟩ = some (.int .i64 t) ∧ w1.rangeAt w.heap.size 4 J) := ⟨Below.refl _ _, y0, y1, y2, y3, hJr⟩
    have keepS : ∀ v1 v2 : World, (Below w1.heap.size w1 v1 ∧ v1.cell? ⟨w.heap.size, 0, none⟩ = some (.string o.prj) ∧ v1.cell? ⟨w.heap.size, 1, none⟩ = some (.string o.ref) ∧ v1.cell? ⟨w.heap.size, 2, none⟩ = some (.bool o.fork) ∧ v1.cell? ⟨w.heap.size, 3, none⟩ = some (.int .i64 t) ∧ v1.rangeAt w.heap.size 4 J) → Below v1.heap.size v1 v2 → (Below w1.heap.size w1 v2 ∧ v2.cell? ⟨w.heap.size, 0, none⟩ = some (.string o.prj) ∧ v2.cell? ⟨w.heap.size, 1, none⟩ = some (.string o.ref) ∧ v2.cell? ⟨w.heap.size, 2, none⟩ = some (.bool o.fork) ∧ v2.cell? ⟨w.heap.size, 3, none⟩ = some (.int .i64 t) ∧ v2.rangeAt w.heap.size 4 J) := fun v1 v2 h hb => ⟨h.1.trans (hb.mono h.1.size), (hb.cell (p := ⟨w.heap.size, _, none⟩) (Nat.lt_of_lt_of_le hcl h.1.size)).trans h.2.1, (hb.cell (p := ⟨w.heap.size, _, none⟩) (Nat.lt_of_lt_of_le hcl h.1.size)).trans h.2.2.1, (hb.cell (p := ⟨w.heap.size, _, none⟩) (Nat.lt_of_lt_of_le hcl h.1.size)).trans h.2.2.2.1, (hb.cell (p := ⟨w.heap.size, _, none⟩) (Nat.lt_of_lt_of_le hcl h.1.size)).trans h.2.2.2.2.1, range_up h.2.2.2.2.2 hb (Nat.lt_of_lt_of_le hcl h.1.size)⟩
    have hS1 : (Below w1.heap.size w1 w1.drew ∧ w1.drew.cell? ⟨w.heap.size, 0, none⟩ = some (.string o.prj) ∧ w1.drew.cell? ⟨w.heap.size, 1, none⟩ = some (.string o.ref) ∧ w1.drew.cell? ⟨w.heap.size, 2, none⟩ = some (.bool o.fork) ∧ w1.drew.cell? ⟨w.heap.size, 3, none⟩ = some (.int .i64 t) ∧ w1.drew.rangeAt w.heap.size 4 J) := keepS _ _ hS0 ((Below.refl _ _).drew)
    replace keepS := Lib.hid keepS
    clear hS0
    go_upto_region 3 with (fail)
    refine wp_region_held_drew (S := fun w' => Below w1.heap.size w1 w' ∧ w'.cell? ⟨w.heap.size, 0, none⟩ = some (.string o.prj) ∧ w'.cell? ⟨w.heap.size, 1, none⟩ = some (.string o.ref) ∧ w'.cell? ⟨w.heap.size, 2, none⟩ = some (.bool o.fork) ∧ w'.cell? ⟨w.heap.size, 3, none⟩ = some (.int .i64 t) ∧ w'.rangeAt w.heap.size 4 J) (by kernel_rfl) ?_ (fun hHeld => ?_)
    · (try dsimp only)
      exact hS1
    refine tkY 0 (v := ?v141) rfl (.inl ⟨by rfl, ?hy141⟩) ?hr141
    case hy141 => (intro w hSw; (try dsimp only at hSw); go_simp; try with_reducible rfl)
    simp only [Act.put, List.getElem_toArray, List.getElem_cons_zero, List.getElem_cons_succ, List.setIfInBounds_toArray, List.set_cons_zero, List.set_cons_succ]
    refine tkY 1 (v := ?v142) rfl (.inl ⟨by rfl, ?hy142⟩) ?hr142
    case hy142 => (intro w hSw; (try dsimp only at hSw); go_simp; try with_reducible rfl)
    simp only [Act.put, List.getElem_toArray, List.getElem_cons_zero, List.getElem_cons_succ, List.setIfInBounds_toArray, List.set_cons_zero, List.set_cons_succ]
    refine tkY 2 (v := ?v143) rfl (.inl ⟨by rfl, ?hy143⟩) ?hr143
    case hy143 => (intro w hSw; (try dsimp only at hSw); go_simp; try with_reducible rfl)
    simp only [Act.put, List.getElem_toArray, List.getElem_cons_zero, List.getElem_cons_succ, List.setIfInBounds_toArray, List.set_cons_zero, List.set_cons_succ]
    refine tkY 3 (v := ?v144) rfl (.inl ⟨by rfl, ?hy144⟩) ?hr144
    case hy144 => (intro w hSw; (try dsimp only at hSw); go_simp; try with_reducible rfl)
    simp only [Act.put, List.getElem_toArray, List.getElem_cons_zero, List.getElem_cons_succ, List.setIfInBounds_toArray, List.set_cons_zero, List.set_cons_succ]
    refine tkY 4 (v := ?v145) rfl (.inl ⟨by rfl, ?hy145⟩) ?hr145
    case hy145 => (intro w hSw; (try dsimp only at hSw); go_simp; try with_reducible rfl)
    simp only [Act.put, List.getElem_toArray, List.getElem_cons_zero, List.getElem_cons_succ, List.setIfInBounds_toArray, List.set_cons_zero, List.set_cons_succ]
    refine tkY 5 (v := ?v146) rfl (.inl ⟨by rfl, ?hy146⟩) ?hr146
    case hy146 => (intro w hSw; (try dsimp only at hSw); go_simp; try with_reducible rfl)
    simp only [Act.put, List.getElem_toArray, List.getElem_cons_zero, List.getElem_cons_succ, List.setIfInBounds_toArray, List.set_cons_zero, List.set_cons_succ]
    refine tkY 6 (v := .agg J.toArray) rfl (yieldsIf_load_mid (by rfl) 57 _ rfl w.heap.size 4 rfl J _ (fun v h => h.2.2.2.2.2) Tryd.underlying57 rfl (job_info hJv)) ?hr147
    simp only [Act.put, List.getElem_toArray, List.getElem_cons_zero, List.getElem_cons_succ, List.setIfInBounds_toArray, List.set_cons_zero, List.set_cons_succ]
    refine tkY 8 (v := ?v148) rfl (.inl ⟨by rfl, ?hy148⟩) ?hr148
    case hy148 => (intro w hSw; (try dsimp only at hSw); go_simp; try with_reducible rfl)
    simp only [Act.put, List.getElem_toArray, List.getElem_cons_zero, List.getElem_cons_succ, List.setIfInBounds_toArray, List.set_cons_zero, List.set_cons_succ]
    refine tkY 9 (v := ?v149) rfl (.inl ⟨by rfl, ?hy149⟩) ?hr149
    case hy149 => (intro w hSw; (try dsimp only at hSw); go_simp; try with_reducible rfl)
    simp only [Act.put, List.getElem_toArray, List.getElem_cons_zero, List.getElem_cons_succ, List.setIfInBounds_toArray, List.set_cons_zero, List.set_cons_succ]
    refine tkY 10 (v := ?v150) rfl (.inl ⟨by rfl, ?hy150⟩) ?hr150
    case hy150 => (intro w hSw; (try dsimp only at hSw); go_simp; try with_reducible rfl)
    simp only [Act.put, List.getElem_toArray, List.getElem_cons_zero, List.getElem_cons_succ, List.setIfInBounds_toArray, List.set_cons_zero, List.set_cons_succ]
    refine tkY 11 (v := ?v151) rfl (.inl ⟨by rfl, ?hy151⟩) ?hr151
    case hy151 => (intro w hSw; (try dsimp only at hSw); go_simp; try with_reducible rfl)
    simp only [Act.put, List.getElem_toArray, List.getElem_cons_zero, List.getElem_cons_succ, List.setIfInBounds_toArray, List.set_cons_zero, List.set_cons_succ]
    refine tkY 12 (v := ?v152) rfl (.inl ⟨by rfl, ?hy152⟩) ?hr152
    case hy152 => (intro w hSw; (try dsimp only at hSw); go_simp; try with_reducible rfl)
    simp only [Act.put, List.getElem_toArray, List.getElem_cons_zero, List.getElem_cons_succ, List.setIfInBounds_toArray, List.set_cons_zero, List.set_cons_succ]
    refine tkY 13 (v := ?v153) rfl (.inl ⟨by rfl, ?hy153⟩) ?hr153
    case hy153 => (intro w hSw; (try dsimp only at hSw); go_simp; try with_reducible rfl)
    simp only [Act.put, List.getElem_toArray, List.getElem_cons_zero, List.getElem_cons_succ, List.setIfInBounds_toArray, List.set_cons_zero, List.set_cons_succ]
    refine tkY 14 (v := .agg J.toArray) rfl (yieldsIf_load_mid (by rfl) 57 _ rfl w.heap.size 4 rfl J _ (fun v h => h.2.2.2.2.2) Tryd.underlying57 rfl (job_info hJv)) ?hr154
    simp only [Act.put, List.getElem_toArray, List.getElem_cons_zero, List.getElem_cons_succ, List.setIfInBounds_toArray, List.set_cons_zero, List.set_cons_succ]
    refine wpAnyH_ready (rs := [7]) (by kernel_rfl) (by simp) ?_
    refine AllReadyH.cons rfl (fun K hK => ?_) AllReadyH.nil
    go_simp
    go_at_call 20
    refine (CV.out _ hHeld.1).mono ?_
    rintro e r7 ⟨VA, vk, vc, rfl, hvs, hbq⟩
    dsimp only
    refine hK.out _ _ ?_ (fun hHeld => ?_)
    · (try dsimp only)
      exact keepS.out _ _ hHeld hbq
    clear hK K
    try simp only [Act.put, List.getElem_toArray, List.getElem_cons_zero, List.getElem_cons_succ, List.setIfInBounds_toArray, List.set_cons_zero, List.set_cons_succ]
    refine wpAnyH_ready (rs := [15]) (by kernel_rfl) (by simp) ?_
    refine AllReadyH.cons rfl (fun K hK => ?_) AllReadyH.nil
    go_simp
    go_at_call 21
    refine (CQ.out _ hHeld.1).mono ?_
    rintro e r15 ⟨QA, qk, qc, rfl, hqs, hbq⟩
    dsimp only
    have hvs2 := hvs.below hbq
    obtain rfl : qk = vk := hqs.n.symm.trans hvs2.n
    clear hvs
    refine hK.out _ _ ?_ (fun hHeld => ?_)
    · (try dsimp only)
      exact keepS.out _ _ hHeld hbq
    clear hK K
    try simp only [Act.put, List.getElem_toArray, List.getElem_cons_zero, List.getElem_cons_succ, List.setIfInBounds_toArray, List.set_cons_zero, List.set_cons_succ]
    refine wpAnyH_ready (rs := [16]) (by kernel_rfl) (by simp) ?_
    refine AllReadyH.cons rfl (fun K hK => ?_) AllReadyH.nil
    go_simp
    go_at_call 15
    refine (refSameS_any vl VA qk vc QA qc _ hvs2 hqs).mono ?_
    rintro e r16 ⟨rfl, hbq⟩
    dsimp only
    clear hvs2 hqs
    refine hK.out _ _ ?_ (fun hHeld => ?_)
    · (try dsimp only)
      exact keepS.out _ _ hHeld hbq
    clear hK K
    try simp only [Act.put, List.getElem_toArray, List.getElem_cons_zero, List.getElem_cons_succ, List.setIfInBounds_toArray, List.set_cons_zero, List.set_cons_succ]
    refine tkY 17 (v := ?v155) rfl (.inl ⟨by rfl, ?hy155⟩) ?hr155
    case hy155 => (intro w hSw; (try dsimp only at hSw); go_simp; try with_reducible rfl)
    simp only [Act.put, List.getElem_toArray, List.getElem_cons_zero, List.getElem_cons_succ, List.setIfInBounds_toArray, List.set_cons_zero, List.set_cons_succ]
    refine tkY 18 (v := ?v156) rfl (.inl ⟨by rfl, ?hy156⟩) ?hr156
    case hy156 => (intro w hSw; (try dsimp only at hSw); go_simp; try with_reducible rfl)
    simp only [Act.put, List.getElem_toArray, List.getElem_cons_zero, List.getElem_cons_succ, List.setIfInBounds_toArray, List.set_cons_zero, List.set_cons_succ]
    refine tkY 19 (v := ?v157) rfl (.inl ⟨by rfl, ?hy157⟩) ?hr157
    case hy157 => (intro w hSw; (try dsimp only at hSw); go_simp; try with_reducible rfl)
    simp only [Act.put, List.getElem_toArray, List.getElem_cons_zero, List.getElem_cons_succ, List.setIfInBounds_toArray, List.set_cons_zero, List.set_cons_succ]
    refine tkY 20 (v := ?v158) rfl (.inl ⟨by rfl, ?hy158⟩) ?hr158
    case hy158 => (intro w hSw; (try dsimp only at hSw); go_simp; try with_reducible rfl)
    simp only [Act.put, List.getElem_toArray, List.getElem_cons_zero, List.getElem_cons_succ, List.setIfInBounds_toArray, List.set_cons_zero, List.set_cons_succ]
    refine tkY 21 (v := ?v159) rfl (.inl ⟨by rfl, ?hy159⟩) ?hr159
    case hy159 => (intro w hSw; (try dsimp only at hSw); go_simp; try with_reducible rfl)
    simp only [Act.put, List.getElem_toArray, List.getElem_cons_zero, List.getElem_cons_succ, List.setIfInBounds_toArray, List.set_cons_zero, List.set_cons_succ]
    refine tkY 22 (v := ?v160) rfl (.inl ⟨by rfl, ?hy160⟩) ?hr160
    case hy160 => (intro w hSw; (try dsimp only at hSw); go_simp; try with_reducible rfl)
    simp only [Act.put, List.getElem_toArray, List.getElem_cons_zero, List.getElem_cons_succ, List.setIfInBounds_toArray, List.set_cons_zero, List.set_cons_succ]
    refine tkY 23 (v := ?v161) rfl (.inl ⟨by rfl, ?hy161⟩) ?hr161
    case hy161 => (intro w hSw; (try dsimp only at hSw); go_simp; try with_reducible rfl)
    simp only [Act.put, List.getElem_toArray, List.getElem_cons_zero, List.getElem_cons_succ, List.setIfInBounds_toArray, List.set_cons_zero, List.set_cons_succ]
    refine tkY 24 (v := .agg J.toArray) rfl (yieldsIf_load_mid (by rfl) 57 _ rfl w.heap.size 4 rfl J _ (fun v h => h.2.2.2.2.2) Tryd.underlying57 rfl (job_info hJv)) ?hr162
    simp only [Act.put, List.getElem_toArray, List.getElem_cons_zero, List.getElem_cons_succ, List.setIfInBounds_toArray, List.set_cons_zero, List.set_cons_succ]
    refine tkY 26 (v := ?v163) rfl (.inl ⟨by rfl, ?hy163⟩) ?hr163
    case hy163 => (intro w hSw; (try dsimp only at hSw); go_simp; try with_reducible rfl)
    simp only [Act.put, List.getElem_toArray, List.getElem_cons_zero, List.getElem_cons_succ, List.setIfInBounds_toArray, List.set_cons_zero, List.set_cons_succ]
    refine tkY 27 (v := ?v164) rfl (.inl ⟨by rfl, ?hy164⟩) ?hr164
    case hy164 => (intro w hSw; (try dsimp only at hSw); go_simp; try with_reducible rfl)
    simp only [Act.put, List.getElem_toArray, List.getElem_cons_zero, List.getElem_cons_succ, List.setIfInBounds_toArray, List.set_cons_zero, List.set_cons_succ]
    refine tkY 28 (v := ?v165) rfl (.inl ⟨by rfl, ?hy165⟩) ?hr165
    case hy165 => (intro w hSw; (try dsimp only at hSw); go_simp; try with_reducible rfl)
    simp only [Act.put, List.getElem_toArray, List.getElem_cons_zero, List.getElem_cons_succ, List.setIfInBounds_toArray, List.set_cons_zero, List.set_cons_succ]
    refine tkY 29 (v := ?v166) rfl (.inl ⟨by rfl, ?hy166⟩) ?hr166
    case hy166 => (intro w hSw; (try dsimp only at hSw); go_simp; try with_reducible rfl)
    simp only [Act.put, List.getElem_toArray, List.getElem_cons_zero, List.getElem_cons_succ, List.setIfInBounds_toArray, List.set_cons_zero, List.set_cons_succ]
    refine tkY 30 (v := ?v167) rfl (.inl ⟨by rfl, ?hy167⟩) ?hr167
    case hy167 => (intro w hSw; (try dsimp only at hSw); go_simp; try with_reducible rfl)
    simp only [Act.put, List.getElem_toArray, List.getElem_cons_zero, List.getElem_cons_succ, List.setIfInBounds_toArray, List.set_cons_zero, List.set_cons_succ]
    refine tkY 31 (v := ?v168) rfl (.inl ⟨by rfl, ?hy168⟩) ?hr168
    case hy168 => (intro w hSw; (try dsimp only at hSw); go_simp; try with_reducible rfl)
    simp only [Act.put, List.getElem_toArray, List.getElem_cons_zero, List.getElem_cons_succ, List.setIfInBounds_toArray, List.set_cons_zero, List.set_cons_succ]
    refine tkY 32 (v := .agg J.toArray) rfl (yieldsIf_load_mid (by rfl) 57 _ rfl w.heap.size 4 rfl J _ (fun v h => h.2.2.2.2.2) Tryd.underlying57 rfl (job_info hJv)) ?hr169
    simp only [Act.put, List.getElem_toArray, List.getElem_cons_zero, List.getElem_cons_succ, List.setIfInBounds_toArray, List.set_cons_zero, List.set_cons_succ]
    refine wpAnyH_ready (rs := [25]) (by kernel_rfl) (by simp) ?_
    refine AllReadyH.cons rfl (fun K hK => ?_) AllReadyH.nil
    go_simp
    go_at_call 23
    refine (CM.out _ hHeld.1).mono ?_
    rintro e r25 ⟨MA, mk, mc, rfl, hmk, hms, hbq⟩
    dsimp only
    refine hK.out _ _ ?_ (fun hHeld => ?_)
    · (try dsimp only)
      exact keepS.out _ _ hHeld hbq
    clear hK K
    try simp only [Act.put, List.getElem_toArray, List.getElem_cons_zero, List.getElem_cons_succ, List.setIfInBounds_toArray, List.set_cons_zero, List.set_cons_succ]
    refine wpAnyH_ready (rs := [33]) (by kernel_rfl) (by simp) ?_
    refine AllReadyH.cons rfl (fun K hK => ?_) AllReadyH.nil
    go_simp
    go_at_call 24
    refine (CN.out _ hHeld.1).mono ?_
    rintro e r33 ⟨NA, nk, nc, rfl, hnk, hns, hbq⟩
    dsimp only
    have hms2 := hms.upB hbq
    clear hms
    obtain rfl : nk = mk := hnk.symm.trans hmk
    refine hK.out _ _ ?_ (fun hHeld => ?_)
    · (try dsimp only)
      exact keepS.out _ _ hHeld hbq
    clear hK K
    try simp only [Act.put, List.getElem_toArray, List.getElem_cons_zero, List.getElem_cons_succ, List.setIfInBounds_toArray, List.set_cons_zero, List.set_cons_succ]
    refine wpAnyH_ready (rs := [34]) (by kernel_rfl) (by simp) ?_
    refine AllReadyH.cons rfl (fun K hK => ?_) AllReadyH.nil
    go_simp
    go_at_call 22
    have CS := refSame_any ml ml MA NA mc nc _ _ _ hms2.seq hns.seq (by omega)
    rw [sameL_refl, hmk] at CS
    refine CS.mono ?_
    clear CS
    rintro e r34 ⟨rfl, hbq⟩
    dsimp only
    refine hK.out _ _ ?_ (fun hHeld => ?_)
    · (try dsimp only)
      exact keepS.out _ _ hHeld hbq
    clear hK K
    try simp only [Act.put, List.getElem_toArray, List.getElem_cons_zero, List.getElem_cons_succ, List.setIfInBounds_toArray, List.set_cons_zero, List.set_cons_succ]
    refine tkY 35 (v := ?v170) rfl (.inl ⟨by rfl, ?hy170⟩) ?hr170
    case hy170 => (intro w hSw; (try dsimp only at hSw); go_simp; try with_reducible rfl)
    simp only [Act.put, List.getElem_toArray, List.getElem_cons_zero, List.getElem_cons_succ, List.setIfInBounds_toArray, List.set_cons_zero, List.set_cons_succ]
    refine tkY 36 (v := ?v171) rfl (.inl ⟨by rfl, ?hy171⟩) ?hr171
    case hy171 => (intro w hSw; (try dsimp only at hSw); go_simp; try with_reducible rfl)
    simp only [Act.put, List.getElem_toArray, List.getElem_cons_zero, List.getElem_cons_succ, List.setIfInBounds_toArray, List.set_cons_zero, List.set_cons_succ]
    refine wpAnyH_ready (rs := [37]) (by kernel_rfl) (by simp) ?_
    refine AllReadyH.cons rfl (fun K hK => ?_) AllReadyH.nil
    go_simp
    go_at_call 10
    refine (lives_any _).mono ?_
    rintro e rL ⟨rfl, hbq⟩
    dsimp only
    refine hK.out _ _ ?_ (fun hHeld => ?_)
    · (try dsimp only)
      exact keepS.out _ _ hHeld hbq
    clear hK K
    try simp only [Act.put, List.getElem_toArray, List.getElem_cons_zero, List.getElem_cons_succ, List.setIfInBounds_toArray, List.set_cons_zero, List.set_cons_succ]
    refine tkY 38 (v := ?v172) rfl (.inl ⟨by rfl, ?hy172⟩) ?hr172
    case hy172 => (intro w hSw; (try dsimp only at hSw); go_simp; try with_reducible rfl)
    simp only [Act.put, List.getElem_toArray, List.getElem_cons_zero, List.getElem_cons_succ, List.setIfInBounds_toArray, List.set_cons_zero, List.set_cons_succ]
    refine tkY 39 (v := ?v173) rfl (.inl ⟨by rfl, ?hy173⟩) ?hr173
    case hy173 => (intro w hSw; (try dsimp only at hSw); go_simp; try with_reducible rfl)
    simp only [Act.put, List.getElem_toArray, List.getElem_cons_zero, List.getElem_cons_succ, List.setIfInBounds_toArray, List.set_cons_zero, List.set_cons_succ]
    refine wpAnyH_done (by kernel_rfl) ?_ _
    have hbW := hHeld.1
    clear hHeld hS1 keepS
    have hbf := hbw.trans (hbW.mono hbw.size)
    repeat' ((fail_if_success at_builtin); (first | go_skip | go_guarded | go_step))
    go_ret
    exact ⟨rfl, hbf⟩
set_option maxRecDepth 100000 in
set_option maxHeartbeats 6000000 in
theorem levels_law (l : List Sec) (A : Option Addr) (n c : Nat) (o : Org) (t : Int) (J : List Value) (names : List ByteArray) (AN : Option Addr) (cN : Nat) (env : ByteArray) (w : World) (h : SecsB w A n c l) (hJ : JobC w J names AN cN env) :
    Calls Tryd.prog 8 #[.slice A n c, .agg (caseL o t J).toArray] w fun e w' => e = .returned (.bool true) ∧ Below w.heap.size w w' := by
  go_enter Tryd.func8, Tryd.ntmps8
  go_upto_region 1 with (fail)
  have hCr := range_new w (caseL o t J) 59
  have hbz := (Below.refl w.heap.size w).alloc (Nat.le_refl _) (.cells (caseL o t J).toArray 59)
  have hsz : w.heap.size < (w.alloc (.cells (caseL o t J).toArray 59)).heap.size := by simp
  generalize World.alloc w _ = w0 at hCr hbz hsz ⊢
  have C := caseSmall_any l A n c o t J names AN cN env w0 (h.below hbz) (hJ.up hbz)
  replace C := Lib.hid C
  repeat' ((fail_if_success at_builtin); (first | (refine wpList_load_midG 59 _ rfl w.heap.size 0 rfl (by rfl) (caseL o t J) _ hCr Tryd.underlying59 rfl (case_info hJ o t) ?_) | go_skip | go_guarded | go_step))
  refine C.out.mono ?_
  clear C
  rintro e w1 ⟨rfl, hb1⟩
  dsimp only
  have hCr1 := range_up hCr hb1 hsz
  have hbw := hbz.trans (hb1.mono hbz.size)
  have hcl : w.heap.size < w1.heap.size := Nat.lt_of_lt_of_le hsz hb1.size
  clear hCr hbz hb1 hsz
  cases hs : smallC l names o env with
  | false =>
    repeat' ((fail_if_success at_builtin); (first | go_skip | go_guarded | go_step))
    refine (lives_any _).mono ?_
    rintro e wl ⟨rfl, hbl⟩
    dsimp only
    have hbf := hbw.trans (hbl.mono hbw.size)
    repeat' ((fail_if_success at_builtin); (first | go_skip | go_guarded | go_step))
    go_ret
    exact ⟨rfl, hbf⟩
  | true =>
    obtain ⟨hsm, hn70, hr2, he2⟩ := smallC_out hs
    have hS := (h.below hbw).secs hsm
    have hJv := hJ.v hn70 he2
    have hNr := hJ.rd.upB hbw
    have hO : OrgW o := ⟨by omega⟩
    clear hs hsm
    have y0 := case_cell hCr1 0 (v := .string o.prj) rfl
    have y1 := case_cell hCr1 1 (v := .string o.ref) rfl
    have y2 := case_cell hCr1 2 (v := .bool o.fork) rfl
    have y3 := case_cell hCr1 3 (v := .int .i64 t) rfl
    have hJr := case_job hCr1
    have C := visible_any l A n c o t env J names AN cN w1 hS hJv hNr hO
    replace C := Lib.hid C
    repeat' ((fail_if_success at_builtin); (first | (refine wpList_load_midG 57 _ rfl w.heap.size 4 rfl (by rfl) J _ hJr Tryd.underlying57 rfl (job_info hJv) ?_) | go_skip | go_guarded | go_step))
    refine C.out.mono ?_
    clear C
    rintro e w2 ⟨VA, vk, vc, rfl, hvs, hb2⟩
    dsimp only
    have hbw2 := hbw.trans (hb2.mono hbw.size)
    have hcl2 : w.heap.size < w2.heap.size := Nat.lt_of_lt_of_le hcl hb2.size
    have hCr2 := range_up hCr1 hb2 hcl
    have hNr2 := hNr.upB hb2
    have hS2 := hS.below hb2
    have hvn := hvs.n
    have hvl := hvs.len
    have hvle := vis_le (names := names) (o := o) (t := t) (env := env) (l := l)
    have hln := h.rd.1
    have hml := miss_len (v := visB names o t env l) (names := names)
    clear y0 y1 y2 y3 hJr hCr1 hbw hS hNr
    generalize hvg : visB names o t env l = vl at *
    replace hvg := Lib.hid hvg
    replace hln := Lib.hid hln
    replace hvn := Lib.hid hvn
    repeat' ((fail_if_success at_builtin); (first | go_skip | go_guarded | go_step))
    go_loopw [6] (fun u6 wr => ∃ i : Nat, i ≤ vk ∧ u6 = .int .i64 (i : Int) ∧ Below w2.heap.size w2 wr) (fun u6 _ => vk - (intOf u6).toNat)
    case atStart => exact ⟨0, by omega, rfl, Below.refl _ _⟩
    case round =>
      obtain ⟨i, hi, rfl, hb⟩ := hrel
      have hbw := hbw2.trans (hb.mono hbw2.size)
      have hcl3 : w.heap.size < wr.heap.size := Nat.lt_of_lt_of_le hcl2 hb.size
      have hCr3 := range_up hCr2 hb hcl2
      have hvr := hvs.below hb
      have y0 := case_cell hCr3 0 (v := .string o.prj) rfl
      have y1 := case_cell hCr3 1 (v := .string o.ref) rfl
      have y2 := case_cell hCr3 2 (v := .bool o.fork) rfl
      have y3 := case_cell hCr3 3 (v := .int .i64 t) rfl
      have hJr := case_job hCr3
      have y32 := hJr 28 _ hJv.c28
      have i0 : (0 : Int) ≤ (i : Int) := by omega
      have i2 : IntKind.i64.wrap ((i : Int) + 1) = (i : Int) + 1 := IntWalk.i64_in _ (by have := hvn.out; omega)
      by_cases hlt : i < vk
      · have i1 : (i : Int) < (vk : Int) := by omega
        obtain ⟨x, hx⟩ : ∃ x, vl[i]? = some x := ⟨_, List.getElem?_eq_getElem (by have := hvn.out; omega)⟩
        obtain ⟨q1, q2, q3⟩ := vis_each (by rw [hvg.out]; exact List.mem_of_getElem? hx)
        obtain ⟨g, o', A1, c1, A2, c2, rfl, hg, hSA⟩ := sec_at hvr.rd hx
        clear hx
        cases hf : o.fork with
        | false =>
          rw [hf] at y2
          have hS0 : (Below wr.heap.size wr wr ∧ wr.cell? ⟨w.heap.size, 2, none⟩ = some (.bool false) ∧ wr.cell? ⟨w.heap.size, 3, none⟩ = some (.int .i64 t) ∧ wr.cell? ⟨w.heap.size, 32, none⟩ = some (.slice AN names.length cN) ∧ wr.cell? ⟨g, o' + i * 5, none⟩ = some (.string x.name) ∧ wr.cell? ⟨g, o' + i * 5 + 2, none⟩ = some (.int .i64 x.level)) := ⟨Below.refl _ _, y2, y3, y32, hSA.e0, hSA.e2⟩
          have keepS : ∀ v1 v2 : World, (Below wr.heap.size wr v1 ∧ v1.cell? ⟨w.heap.size, 2, none⟩ = some (.bool false) ∧ v1.cell? ⟨w.heap.size, 3, none⟩ = some (.int .i64 t) ∧ v1.cell? ⟨w.heap.size, 32, none⟩ = some (.slice AN names.length cN) ∧ v1.cell? ⟨g, o' + i * 5, none⟩ = some (.string x.name) ∧ v1.cell? ⟨g, o' + i * 5 + 2, none⟩ = some (.int .i64 x.level)) → Below v1.heap.size v1 v2 → (Below wr.heap.size wr v2 ∧ v2.cell? ⟨w.heap.size, 2, none⟩ = some (.bool false) ∧ v2.cell? ⟨w.heap.size, 3, none⟩ = some (.int .i64 t) ∧ v2.cell? ⟨w.heap.size, 32, none⟩ = some (.slice AN names.length cN) ∧ v2.cell? ⟨g, o' + i * 5, none⟩ = some (.string x.name) ∧ v2.cell? ⟨g, o' + i * 5 + 2, none⟩ = some (.int .i64 x.level)) := fun v1 v2 h hb => ⟨h.1.trans (hb.mono h.1.size), (hb.cell (p := ⟨w.heap.size, _, none⟩) (Nat.lt_of_lt_of_le hcl3 h.1.size)).trans h.2.1, (hb.cell (p := ⟨w.heap.size, _, none⟩) (Nat.lt_of_lt_of_le hcl3 h.1.size)).trans h.2.2.1, (hb.cell (p := ⟨w.heap.size, _, none⟩) (Nat.lt_of_lt_of_le hcl3 h.1.size)).trans h.2.2.2.1, (hb.cell (p := ⟨g, _, none⟩) (Nat.lt_of_lt_of_le hg h.1.size)).trans h.2.2.2.2.1, (hb.cell (p := ⟨g, _, none⟩) (Nat.lt_of_lt_of_le hg h.1.size)).trans h.2.2.2.2.2⟩
          have hS1 : (Below wr.heap.size wr wr.drew ∧ wr.drew.cell? ⟨w.heap.size, 2, none⟩ = some (.bool false) ∧ wr.drew.cell? ⟨w.heap.size, 3, none⟩ = some (.int .i64 t) ∧ wr.drew.cell? ⟨w.heap.size, 32, none⟩ = some (.slice AN names.length cN) ∧ wr.drew.cell? ⟨g, o' + i * 5, none⟩ = some (.string x.name) ∧ wr.drew.cell? ⟨g, o' + i * 5 + 2, none⟩ = some (.int .i64 x.level)) := keepS _ _ hS0 ((Below.refl _ _).drew)
          replace keepS := Lib.hid keepS
          clear hS0
          go_upto_region 7 with (fail)
          refine wp_region_held_drew (S := fun w' => Below wr.heap.size wr w' ∧ w'.cell? ⟨w.heap.size, 2, none⟩ = some (.bool false) ∧ w'.cell? ⟨w.heap.size, 3, none⟩ = some (.int .i64 t) ∧ w'.cell? ⟨w.heap.size, 32, none⟩ = some (.slice AN names.length cN) ∧ w'.cell? ⟨g, o' + i * 5, none⟩ = some (.string x.name) ∧ w'.cell? ⟨g, o' + i * 5 + 2, none⟩ = some (.int .i64 x.level)) (by kernel_rfl) ?_ (fun hHeld => ?_)
          · (try dsimp only)
            exact hS1
          refine tkY 0 (v := ?v174) rfl (.inl ⟨by rfl, ?hy174⟩) ?hr174
          case hy174 => (intro w hSw; (try dsimp only at hSw); go_simp; try with_reducible rfl)
          simp only [Act.put, List.getElem_toArray, List.getElem_cons_zero, List.getElem_cons_succ, List.setIfInBounds_toArray, List.set_cons_zero, List.set_cons_succ]
          refine tkY 1 (v := ?v175) rfl (.inl ⟨by rfl, ?hy175⟩) ?hr175
          case hy175 => (intro w hSw; (try dsimp only at hSw); go_simp; try with_reducible rfl)
          simp only [Act.put, List.getElem_toArray, List.getElem_cons_zero, List.getElem_cons_succ, List.setIfInBounds_toArray, List.set_cons_zero, List.set_cons_succ]
          refine tkY 2 (v := ?v176) rfl (.inl ⟨by rfl, ?hy176⟩) ?hr176
          case hy176 => (intro w hSw; (try dsimp only at hSw); go_simp; try with_reducible rfl)
          simp only [Act.put, List.getElem_toArray, List.getElem_cons_zero, List.getElem_cons_succ, List.setIfInBounds_toArray, List.set_cons_zero, List.set_cons_succ]
          refine tkY 3 (v := ?v177) rfl (.inl ⟨by rfl, ?hy177⟩) ?hr177
          case hy177 => (intro w hSw; (try dsimp only at hSw); go_simp; try with_reducible rfl)
          simp only [Act.put, List.getElem_toArray, List.getElem_cons_zero, List.getElem_cons_succ, List.setIfInBounds_toArray, List.set_cons_zero, List.set_cons_succ]
          refine tkY 4 (v := ?v178) rfl (.inl ⟨by rfl, ?hy178⟩) ?hr178
          case hy178 => (intro w hSw; (try dsimp only at hSw); go_simp; try with_reducible rfl)
          simp only [Act.put, List.getElem_toArray, List.getElem_cons_zero, List.getElem_cons_succ, List.setIfInBounds_toArray, List.set_cons_zero, List.set_cons_succ]
          refine tkY 5 (v := ?v179) rfl (.inl ⟨by rfl, ?hy179⟩) ?hr179
          case hy179 => (intro w hSw; (try dsimp only at hSw); go_simp; try with_reducible rfl)
          simp only [Act.put, List.getElem_toArray, List.getElem_cons_zero, List.getElem_cons_succ, List.setIfInBounds_toArray, List.set_cons_zero, List.set_cons_succ]
          refine tkY 6 (v := ?v180) rfl (.inl ⟨by rfl, ?hy180⟩) ?hr180
          case hy180 => (intro w hSw; (try dsimp only at hSw); go_simp; try with_reducible rfl)
          simp only [Act.put, List.getElem_toArray, List.getElem_cons_zero, List.getElem_cons_succ, List.setIfInBounds_toArray, List.set_cons_zero, List.set_cons_succ]
          refine tkY 7 (v := ?v181) rfl (.inl ⟨by rfl, ?hy181⟩) ?hr181
          case hy181 => (intro w hSw; (try dsimp only at hSw); go_simp; try with_reducible rfl)
          simp only [Act.put, List.getElem_toArray, List.getElem_cons_zero, List.getElem_cons_succ, List.setIfInBounds_toArray, List.set_cons_zero, List.set_cons_succ]
          refine tkY 8 (v := ?v182) rfl (.inl ⟨by rfl, ?hy182⟩) ?hr182
          case hy182 => (intro w hSw; (try dsimp only at hSw); go_simp; try with_reducible rfl)
          simp only [Act.put, List.getElem_toArray, List.getElem_cons_zero, List.getElem_cons_succ, List.setIfInBounds_toArray, List.set_cons_zero, List.set_cons_succ]
          refine tkY 9 (v := ?v183) rfl (.inl ⟨by rfl, ?hy183⟩) ?hr183
          case hy183 => (intro w hSw; (try dsimp only at hSw); go_simp; try with_reducible rfl)
          simp only [Act.put, List.getElem_toArray, List.getElem_cons_zero, List.getElem_cons_succ, List.setIfInBounds_toArray, List.set_cons_zero, List.set_cons_succ]
          refine tkY 10 (v := ?v184) rfl (.inl ⟨by rfl, ?hy184⟩) ?hr184
          case hy184 => (intro w hSw; (try dsimp only at hSw); go_simp; try with_reducible rfl)
          simp only [Act.put, List.getElem_toArray, List.getElem_cons_zero, List.getElem_cons_succ, List.setIfInBounds_toArray, List.set_cons_zero, List.set_cons_succ]
          refine tkY 11 (v := ?v185) rfl (.inl ⟨by rfl, ?hy185⟩) ?hr185
          case hy185 => (intro w hSw; (try dsimp only at hSw); go_simp; try with_reducible rfl)
          simp only [Act.put, List.getElem_toArray, List.getElem_cons_zero, List.getElem_cons_succ, List.setIfInBounds_toArray, List.set_cons_zero, List.set_cons_succ]
          refine tkY 12 (v := ?v186) rfl (.inl ⟨by rfl, ?hy186⟩) ?hr186
          case hy186 => (intro w hSw; (try dsimp only at hSw); go_simp; try with_reducible rfl)
          simp only [Act.put, List.getElem_toArray, List.getElem_cons_zero, List.getElem_cons_succ, List.setIfInBounds_toArray, List.set_cons_zero, List.set_cons_succ]
          refine tkN 13 rfl ?_
          simp only [Act.put, List.getElem_toArray, List.getElem_cons_zero, List.getElem_cons_succ, List.setIfInBounds_toArray, List.set_cons_zero, List.set_cons_succ]
          refine tkN 14 rfl ?_
          simp only [Act.put, List.getElem_toArray, List.getElem_cons_zero, List.getElem_cons_succ, List.setIfInBounds_toArray, List.set_cons_zero, List.set_cons_succ]
          refine tkN 15 rfl ?_
          simp only [Act.put, List.getElem_toArray, List.getElem_cons_zero, List.getElem_cons_succ, List.setIfInBounds_toArray, List.set_cons_zero, List.set_cons_succ]
          refine tkN 16 rfl ?_
          simp only [Act.put, List.getElem_toArray, List.getElem_cons_zero, List.getElem_cons_succ, List.setIfInBounds_toArray, List.set_cons_zero, List.set_cons_succ]
          refine tkN 17 rfl ?_
          simp only [Act.put, List.getElem_toArray, List.getElem_cons_zero, List.getElem_cons_succ, List.setIfInBounds_toArray, List.set_cons_zero, List.set_cons_succ]
          refine tkN 18 rfl ?_
          simp only [Act.put, List.getElem_toArray, List.getElem_cons_zero, List.getElem_cons_succ, List.setIfInBounds_toArray, List.set_cons_zero, List.set_cons_succ]
          refine tkY 19 (v := ?v187) rfl (.inl ⟨by rfl, ?hy187⟩) ?hr187
          case hy187 => (intro w hSw; (try dsimp only at hSw); go_simp; try with_reducible rfl)
          simp only [Act.put, List.getElem_toArray, List.getElem_cons_zero, List.getElem_cons_succ, List.setIfInBounds_toArray, List.set_cons_zero, List.set_cons_succ]
          refine tkY 20 (v := ?v188) rfl (.inl ⟨by rfl, ?hy188⟩) ?hr188
          case hy188 => (intro w hSw; (try dsimp only at hSw); go_simp; try with_reducible rfl)
          simp only [Act.put, List.getElem_toArray, List.getElem_cons_zero, List.getElem_cons_succ, List.setIfInBounds_toArray, List.set_cons_zero, List.set_cons_succ]
          refine tkY 21 (v := ?v189) rfl (.inl ⟨by rfl, ?hy189⟩) ?hr189
          case hy189 => (intro w hSw; (try dsimp only at hSw); go_simp; try with_reducible rfl)
          simp only [Act.put, List.getElem_toArray, List.getElem_cons_zero, List.getElem_cons_succ, List.setIfInBounds_toArray, List.set_cons_zero, List.set_cons_succ]
          refine tkY 22 (v := ?v190) rfl (.inl ⟨by rfl, ?hy190⟩) ?hr190
          case hy190 => (intro w hSw; (try dsimp only at hSw); go_simp; try with_reducible rfl)
          simp only [Act.put, List.getElem_toArray, List.getElem_cons_zero, List.getElem_cons_succ, List.setIfInBounds_toArray, List.set_cons_zero, List.set_cons_succ]
          refine tkY 23 (v := ?v191) rfl (.inl ⟨by rfl, ?hy191⟩) ?hr191
          case hy191 => (intro w hSw; (try dsimp only at hSw); go_simp; try with_reducible rfl)
          simp only [Act.put, List.getElem_toArray, List.getElem_cons_zero, List.getElem_cons_succ, List.setIfInBounds_toArray, List.set_cons_zero, List.set_cons_succ]
          refine tkY 24 (v := ?v192) rfl (.inl ⟨by rfl, ?hy192⟩) ?hr192
          case hy192 => (intro w hSw; (try dsimp only at hSw); go_simp; try with_reducible rfl)
          simp only [Act.put, List.getElem_toArray, List.getElem_cons_zero, List.getElem_cons_succ, List.setIfInBounds_toArray, List.set_cons_zero, List.set_cons_succ]
          refine tkY 25 (v := ?v193) rfl (.inl ⟨by rfl, ?hy193⟩) ?hr193
          case hy193 => (intro w hSw; (try dsimp only at hSw); go_simp; try with_reducible rfl)
          simp only [Act.put, List.getElem_toArray, List.getElem_cons_zero, List.getElem_cons_succ, List.setIfInBounds_toArray, List.set_cons_zero, List.set_cons_succ]
          refine tkY 26 (v := ?v194) rfl (.inl ⟨by rfl, ?hy194⟩) ?hr194
          case hy194 => (intro w hSw; (try dsimp only at hSw); go_simp; try with_reducible rfl)
          simp only [Act.put, List.getElem_toArray, List.getElem_cons_zero, List.getElem_cons_succ, List.setIfInBounds_toArray, List.set_cons_zero, List.set_cons_succ]
          refine tkY 27 (v := ?v195) rfl (.inl ⟨by rfl, ?hy195⟩) ?hr195
          case hy195 => (intro w hSw; (try dsimp only at hSw); go_simp; try with_reducible rfl)
          simp only [Act.put, List.getElem_toArray, List.getElem_cons_zero, List.getElem_cons_succ, List.setIfInBounds_toArray, List.set_cons_zero, List.set_cons_succ]
          refine tkY 28 (v := ?v196) rfl (.inl ⟨by rfl, ?hy196⟩) ?hr196
          case hy196 => (intro w hSw; (try dsimp only at hSw); go_simp; try with_reducible rfl)
          simp only [Act.put, List.getElem_toArray, List.getElem_cons_zero, List.getElem_cons_succ, List.setIfInBounds_toArray, List.set_cons_zero, List.set_cons_succ]
          refine tkY 29 (v := ?v197) rfl (.inl ⟨by rfl, ?hy197⟩) ?hr197
          case hy197 => (intro w hSw; (try dsimp only at hSw); go_simp; try with_reducible rfl)
          simp only [Act.put, List.getElem_toArray, List.getElem_cons_zero, List.getElem_cons_succ, List.setIfInBounds_toArray, List.set_cons_zero, List.set_cons_succ]
          refine wpAnyH_ready (rs := [30]) (by kernel_rfl) (by simp) ?_
          refine AllReadyH.cons rfl (fun K hK => ?_) AllReadyH.nil
          go_simp
          go_at_call 25
          refine (refHasB_any names x.name AN cN w2.heap.size _ (Seq.below hNr2.seq (hb.trans (hHeld.1.mono hb.size))) (by have := hJv.nl; omega)).mono ?_
          rintro e r30 ⟨rfl, hbq⟩
          dsimp only
          rw [q3]
          refine hK.out _ _ ?_ (fun hHeld => ?_)
          · (try dsimp only)
            exact keepS.out _ _ hHeld hbq
          clear hK K
          try simp only [Act.put, List.getElem_toArray, List.getElem_cons_zero, List.getElem_cons_succ, List.setIfInBounds_toArray, List.set_cons_zero, List.set_cons_succ]
          refine tkY 31 (v := ?v198) rfl (.inl ⟨by rfl, ?hy198⟩) ?hr198
          case hy198 => (intro w hSw; (try dsimp only at hSw); go_simp; try with_reducible rfl)
          simp only [Act.put, List.getElem_toArray, List.getElem_cons_zero, List.getElem_cons_succ, List.setIfInBounds_toArray, List.set_cons_zero, List.set_cons_succ]
          refine tkY 32 (v := ?v199) rfl (.inl ⟨by rfl, ?hy199⟩) ?hr199
          case hy199 => (intro w hSw; (try dsimp only at hSw); go_simp; try with_reducible rfl)
          simp only [Act.put, List.getElem_toArray, List.getElem_cons_zero, List.getElem_cons_succ, List.setIfInBounds_toArray, List.set_cons_zero, List.set_cons_succ]
          refine wpAnyH_done (by kernel_rfl) ?_ _
          have hbW := hHeld.1
          clear hHeld hS1 keepS
          have hbz := hb.trans (hbW.mono hb.size)
          repeat' ((fail_if_success at_builtin); (first | go_skip | go_guarded | go_step))
          go_roundw
          case rel => exact ⟨i + 1, by omega, by first | rfl | go_num, hbz⟩
          case measure => (try go_num); (try simp [intOf]); (try omega)
        | true =>
          rw [hf] at y2
          have q2' := q2 hf
          have hS0 : (Below wr.heap.size wr wr ∧ wr.cell? ⟨w.heap.size, 2, none⟩ = some (.bool true) ∧ wr.cell? ⟨w.heap.size, 3, none⟩ = some (.int .i64 t) ∧ wr.cell? ⟨w.heap.size, 32, none⟩ = some (.slice AN names.length cN) ∧ wr.cell? ⟨g, o' + i * 5, none⟩ = some (.string x.name) ∧ wr.cell? ⟨g, o' + i * 5 + 2, none⟩ = some (.int .i64 x.level)) := ⟨Below.refl _ _, y2, y3, y32, hSA.e0, hSA.e2⟩
          have keepS : ∀ v1 v2 : World, (Below wr.heap.size wr v1 ∧ v1.cell? ⟨w.heap.size, 2, none⟩ = some (.bool true) ∧ v1.cell? ⟨w.heap.size, 3, none⟩ = some (.int .i64 t) ∧ v1.cell? ⟨w.heap.size, 32, none⟩ = some (.slice AN names.length cN) ∧ v1.cell? ⟨g, o' + i * 5, none⟩ = some (.string x.name) ∧ v1.cell? ⟨g, o' + i * 5 + 2, none⟩ = some (.int .i64 x.level)) → Below v1.heap.size v1 v2 → (Below wr.heap.size wr v2 ∧ v2.cell? ⟨w.heap.size, 2, none⟩ = some (.bool true) ∧ v2.cell? ⟨w.heap.size, 3, none⟩ = some (.int .i64 t) ∧ v2.cell? ⟨w.heap.size, 32, none⟩ = some (.slice AN names.length cN) ∧ v2.cell? ⟨g, o' + i * 5, none⟩ = some (.string x.name) ∧ v2.cell? ⟨g, o' + i * 5 + 2, none⟩ = some (.int .i64 x.level)) := fun v1 v2 h hb => ⟨h.1.trans (hb.mono h.1.size), (hb.cell (p := ⟨w.heap.size, _, none⟩) (Nat.lt_of_lt_of_le hcl3 h.1.size)).trans h.2.1, (hb.cell (p := ⟨w.heap.size, _, none⟩) (Nat.lt_of_lt_of_le hcl3 h.1.size)).trans h.2.2.1, (hb.cell (p := ⟨w.heap.size, _, none⟩) (Nat.lt_of_lt_of_le hcl3 h.1.size)).trans h.2.2.2.1, (hb.cell (p := ⟨g, _, none⟩) (Nat.lt_of_lt_of_le hg h.1.size)).trans h.2.2.2.2.1, (hb.cell (p := ⟨g, _, none⟩) (Nat.lt_of_lt_of_le hg h.1.size)).trans h.2.2.2.2.2⟩
          have hS1 : (Below wr.heap.size wr wr.drew ∧ wr.drew.cell? ⟨w.heap.size, 2, none⟩ = some (.bool true) ∧ wr.drew.cell? ⟨w.heap.size, 3, none⟩ = some (.int .i64 t) ∧ wr.drew.cell? ⟨w.heap.size, 32, none⟩ = some (.slice AN names.length cN) ∧ wr.drew.cell? ⟨g, o' + i * 5, none⟩ = some (.string x.name) ∧ wr.drew.cell? ⟨g, o' + i * 5 + 2, none⟩ = some (.int .i64 x.level)) := keepS _ _ hS0 ((Below.refl _ _).drew)
          replace keepS := Lib.hid keepS
          clear hS0
          go_upto_region 7 with (fail)
          refine wp_region_held_drew (S := fun w' => Below wr.heap.size wr w' ∧ w'.cell? ⟨w.heap.size, 2, none⟩ = some (.bool true) ∧ w'.cell? ⟨w.heap.size, 3, none⟩ = some (.int .i64 t) ∧ w'.cell? ⟨w.heap.size, 32, none⟩ = some (.slice AN names.length cN) ∧ w'.cell? ⟨g, o' + i * 5, none⟩ = some (.string x.name) ∧ w'.cell? ⟨g, o' + i * 5 + 2, none⟩ = some (.int .i64 x.level)) (by kernel_rfl) ?_ (fun hHeld => ?_)
          · (try dsimp only)
            exact hS1
          refine tkY 0 (v := ?v200) rfl (.inl ⟨by rfl, ?hy200⟩) ?hr200
          case hy200 => (intro w hSw; (try dsimp only at hSw); go_simp; try with_reducible rfl)
          simp only [Act.put, List.getElem_toArray, List.getElem_cons_zero, List.getElem_cons_succ, List.setIfInBounds_toArray, List.set_cons_zero, List.set_cons_succ]
          refine tkY 1 (v := ?v201) rfl (.inl ⟨by rfl, ?hy201⟩) ?hr201
          case hy201 => (intro w hSw; (try dsimp only at hSw); go_simp; try with_reducible rfl)
          simp only [Act.put, List.getElem_toArray, List.getElem_cons_zero, List.getElem_cons_succ, List.setIfInBounds_toArray, List.set_cons_zero, List.set_cons_succ]
          refine tkY 2 (v := ?v202) rfl (.inl ⟨by rfl, ?hy202⟩) ?hr202
          case hy202 => (intro w hSw; (try dsimp only at hSw); go_simp; try with_reducible rfl)
          simp only [Act.put, List.getElem_toArray, List.getElem_cons_zero, List.getElem_cons_succ, List.setIfInBounds_toArray, List.set_cons_zero, List.set_cons_succ]
          refine tkY 3 (v := ?v203) rfl (.inl ⟨by rfl, ?hy203⟩) ?hr203
          case hy203 => (intro w hSw; (try dsimp only at hSw); go_simp; try with_reducible rfl)
          simp only [Act.put, List.getElem_toArray, List.getElem_cons_zero, List.getElem_cons_succ, List.setIfInBounds_toArray, List.set_cons_zero, List.set_cons_succ]
          refine tkY 4 (v := ?v204) rfl (.inl ⟨by rfl, ?hy204⟩) ?hr204
          case hy204 => (intro w hSw; (try dsimp only at hSw); go_simp; try with_reducible rfl)
          simp only [Act.put, List.getElem_toArray, List.getElem_cons_zero, List.getElem_cons_succ, List.setIfInBounds_toArray, List.set_cons_zero, List.set_cons_succ]
          refine tkY 5 (v := ?v205) rfl (.inl ⟨by rfl, ?hy205⟩) ?hr205
          case hy205 => (intro w hSw; (try dsimp only at hSw); go_simp; try with_reducible rfl)
          simp only [Act.put, List.getElem_toArray, List.getElem_cons_zero, List.getElem_cons_succ, List.setIfInBounds_toArray, List.set_cons_zero, List.set_cons_succ]
          refine tkY 6 (v := ?v206) rfl (.inl ⟨by rfl, ?hy206⟩) ?hr206
          case hy206 => (intro w hSw; (try dsimp only at hSw); go_simp; try with_reducible rfl)
          simp only [Act.put, List.getElem_toArray, List.getElem_cons_zero, List.getElem_cons_succ, List.setIfInBounds_toArray, List.set_cons_zero, List.set_cons_succ]
          refine tkY 7 (v := ?v207) rfl (.inl ⟨by rfl, ?hy207⟩) ?hr207
          case hy207 => (intro w hSw; (try dsimp only at hSw); go_simp; try with_reducible rfl)
          simp only [Act.put, List.getElem_toArray, List.getElem_cons_zero, List.getElem_cons_succ, List.setIfInBounds_toArray, List.set_cons_zero, List.set_cons_succ]
          refine tkY 8 (v := ?v208) rfl (.inl ⟨by rfl, ?hy208⟩) ?hr208
          case hy208 => (intro w hSw; (try dsimp only at hSw); go_simp; try with_reducible rfl)
          simp only [Act.put, List.getElem_toArray, List.getElem_cons_zero, List.getElem_cons_succ, List.setIfInBounds_toArray, List.set_cons_zero, List.set_cons_succ]
          refine tkY 9 (v := ?v209) rfl (.inl ⟨by rfl, ?hy209⟩) ?hr209
          case hy209 => (intro w hSw; (try dsimp only at hSw); go_simp; try with_reducible rfl)
          simp only [Act.put, List.getElem_toArray, List.getElem_cons_zero, List.getElem_cons_succ, List.setIfInBounds_toArray, List.set_cons_zero, List.set_cons_succ]
          refine tkY 10 (v := ?v210) rfl (.inl ⟨by rfl, ?hy210⟩) ?hr210
          case hy210 => (intro w hSw; (try dsimp only at hSw); go_simp; try with_reducible rfl)
          simp only [Act.put, List.getElem_toArray, List.getElem_cons_zero, List.getElem_cons_succ, List.setIfInBounds_toArray, List.set_cons_zero, List.set_cons_succ]
          refine tkY 11 (v := ?v211) rfl (.inl ⟨by rfl, ?hy211⟩) ?hr211
          case hy211 => (intro w hSw; (try dsimp only at hSw); go_simp; try with_reducible rfl)
          simp only [Act.put, List.getElem_toArray, List.getElem_cons_zero, List.getElem_cons_succ, List.setIfInBounds_toArray, List.set_cons_zero, List.set_cons_succ]
          refine tkY 12 (v := ?v212) rfl (.inl ⟨by rfl, ?hy212⟩) ?hr212
          case hy212 => (intro w hSw; (try dsimp only at hSw); go_simp; try with_reducible rfl)
          simp only [Act.put, List.getElem_toArray, List.getElem_cons_zero, List.getElem_cons_succ, List.setIfInBounds_toArray, List.set_cons_zero, List.set_cons_succ]
          refine tkY 13 (v := ?v213) rfl (.inl ⟨by rfl, ?hy213⟩) ?hr213
          case hy213 => (intro w hSw; (try dsimp only at hSw); go_simp; try with_reducible rfl)
          simp only [Act.put, List.getElem_toArray, List.getElem_cons_zero, List.getElem_cons_succ, List.setIfInBounds_toArray, List.set_cons_zero, List.set_cons_succ]
          refine tkY 14 (v := ?v214) rfl (.inl ⟨by rfl, ?hy214⟩) ?hr214
          case hy214 => (intro w hSw; (try dsimp only at hSw); go_simp; try with_reducible rfl)
          simp only [Act.put, List.getElem_toArray, List.getElem_cons_zero, List.getElem_cons_succ, List.setIfInBounds_toArray, List.set_cons_zero, List.set_cons_succ]
          refine tkY 15 (v := ?v215) rfl (.inl ⟨by rfl, ?hy215⟩) ?hr215
          case hy215 => (intro w hSw; (try dsimp only at hSw); go_simp; try with_reducible rfl)
          simp only [Act.put, List.getElem_toArray, List.getElem_cons_zero, List.getElem_cons_succ, List.setIfInBounds_toArray, List.set_cons_zero, List.set_cons_succ]
          refine tkY 16 (v := ?v216) rfl (.inl ⟨by rfl, ?hy216⟩) ?hr216
          case hy216 => (intro w hSw; (try dsimp only at hSw); go_simp; try with_reducible rfl)
          simp only [Act.put, List.getElem_toArray, List.getElem_cons_zero, List.getElem_cons_succ, List.setIfInBounds_toArray, List.set_cons_zero, List.set_cons_succ]
          refine tkY 17 (v := ?v217) rfl (.inl ⟨by rfl, ?hy217⟩) ?hr217
          case hy217 => (intro w hSw; (try dsimp only at hSw); go_simp; try with_reducible rfl)
          simp only [Act.put, List.getElem_toArray, List.getElem_cons_zero, List.getElem_cons_succ, List.setIfInBounds_toArray, List.set_cons_zero, List.set_cons_succ]
          refine tkY 18 (v := ?v218) rfl (.inl ⟨by rfl, ?hy218⟩) ?hr218
          case hy218 => (intro w hSw; (try dsimp only at hSw); go_simp; try with_reducible rfl)
          simp only [Act.put, List.getElem_toArray, List.getElem_cons_zero, List.getElem_cons_succ, List.setIfInBounds_toArray, List.set_cons_zero, List.set_cons_succ]
          refine tkY 19 (v := ?v219) rfl (.inl ⟨by rfl, ?hy219⟩) ?hr219
          case hy219 => (intro w hSw; (try dsimp only at hSw); go_simp; try with_reducible rfl)
          simp only [Act.put, List.getElem_toArray, List.getElem_cons_zero, List.getElem_cons_succ, List.setIfInBounds_toArray, List.set_cons_zero, List.set_cons_succ]
          refine tkY 20 (v := ?v220) rfl (.inl ⟨by rfl, ?hy220⟩) ?hr220
          case hy220 => (intro w hSw; (try dsimp only at hSw); go_simp; try with_reducible rfl)
          simp only [Act.put, List.getElem_toArray, List.getElem_cons_zero, List.getElem_cons_succ, List.setIfInBounds_toArray, List.set_cons_zero, List.set_cons_succ]
          refine tkY 21 (v := ?v221) rfl (.inl ⟨by rfl, ?hy221⟩) ?hr221
          case hy221 => (intro w hSw; (try dsimp only at hSw); go_simp; try with_reducible rfl)
          simp only [Act.put, List.getElem_toArray, List.getElem_cons_zero, List.getElem_cons_succ, List.setIfInBounds_toArray, List.set_cons_zero, List.set_cons_succ]
          refine tkY 22 (v := ?v222) rfl (.inl ⟨by rfl, ?hy222⟩) ?hr222
          case hy222 => (intro w hSw; (try dsimp only at hSw); go_simp; try with_reducible rfl)
          simp only [Act.put, List.getElem_toArray, List.getElem_cons_zero, List.getElem_cons_succ, List.setIfInBounds_toArray, List.set_cons_zero, List.set_cons_succ]
          refine tkY 23 (v := ?v223) rfl (.inl ⟨by rfl, ?hy223⟩) ?hr223
          case hy223 => (intro w hSw; (try dsimp only at hSw); go_simp; try with_reducible rfl)
          simp only [Act.put, List.getElem_toArray, List.getElem_cons_zero, List.getElem_cons_succ, List.setIfInBounds_toArray, List.set_cons_zero, List.set_cons_succ]
          refine tkY 24 (v := ?v224) rfl (.inl ⟨by rfl, ?hy224⟩) ?hr224
          case hy224 => (intro w hSw; (try dsimp only at hSw); go_simp; try with_reducible rfl)
          simp only [Act.put, List.getElem_toArray, List.getElem_cons_zero, List.getElem_cons_succ, List.setIfInBounds_toArray, List.set_cons_zero, List.set_cons_succ]
          refine tkY 25 (v := ?v225) rfl (.inl ⟨by rfl, ?hy225⟩) ?hr225
          case hy225 => (intro w hSw; (try dsimp only at hSw); go_simp; try with_reducible rfl)
          simp only [Act.put, List.getElem_toArray, List.getElem_cons_zero, List.getElem_cons_succ, List.setIfInBounds_toArray, List.set_cons_zero, List.set_cons_succ]
          refine tkY 26 (v := ?v226) rfl (.inl ⟨by rfl, ?hy226⟩) ?hr226
          case hy226 => (intro w hSw; (try dsimp only at hSw); go_simp; try with_reducible rfl)
          simp only [Act.put, List.getElem_toArray, List.getElem_cons_zero, List.getElem_cons_succ, List.setIfInBounds_toArray, List.set_cons_zero, List.set_cons_succ]
          refine tkY 27 (v := ?v227) rfl (.inl ⟨by rfl, ?hy227⟩) ?hr227
          case hy227 => (intro w hSw; (try dsimp only at hSw); go_simp; try with_reducible rfl)
          simp only [Act.put, List.getElem_toArray, List.getElem_cons_zero, List.getElem_cons_succ, List.setIfInBounds_toArray, List.set_cons_zero, List.set_cons_succ]
          refine tkY 28 (v := ?v228) rfl (.inl ⟨by rfl, ?hy228⟩) ?hr228
          case hy228 => (intro w hSw; (try dsimp only at hSw); go_simp; try with_reducible rfl)
          simp only [Act.put, List.getElem_toArray, List.getElem_cons_zero, List.getElem_cons_succ, List.setIfInBounds_toArray, List.set_cons_zero, List.set_cons_succ]
          refine tkY 29 (v := ?v229) rfl (.inl ⟨by rfl, ?hy229⟩) ?hr229
          case hy229 => (intro w hSw; (try dsimp only at hSw); go_simp; try with_reducible rfl)
          simp only [Act.put, List.getElem_toArray, List.getElem_cons_zero, List.getElem_cons_succ, List.setIfInBounds_toArray, List.set_cons_zero, List.set_cons_succ]
          refine wpAnyH_ready (rs := [30]) (by kernel_rfl) (by simp) ?_
          refine AllReadyH.cons rfl (fun K hK => ?_) AllReadyH.nil
          go_simp
          go_at_call 25
          refine (refHasB_any names x.name AN cN w2.heap.size _ (Seq.below hNr2.seq (hb.trans (hHeld.1.mono hb.size))) (by have := hJv.nl; omega)).mono ?_
          rintro e r30 ⟨rfl, hbq⟩
          dsimp only
          rw [q3]
          refine hK.out _ _ ?_ (fun hHeld => ?_)
          · (try dsimp only)
            exact keepS.out _ _ hHeld hbq
          clear hK K
          try simp only [Act.put, List.getElem_toArray, List.getElem_cons_zero, List.getElem_cons_succ, List.setIfInBounds_toArray, List.set_cons_zero, List.set_cons_succ]
          refine tkY 31 (v := ?v230) rfl (.inl ⟨by rfl, ?hy230⟩) ?hr230
          case hy230 => (intro w hSw; (try dsimp only at hSw); go_simp; try with_reducible rfl)
          simp only [Act.put, List.getElem_toArray, List.getElem_cons_zero, List.getElem_cons_succ, List.setIfInBounds_toArray, List.set_cons_zero, List.set_cons_succ]
          refine tkY 32 (v := ?v231) rfl (.inl ⟨by rfl, ?hy231⟩) ?hr231
          case hy231 => (intro w hSw; (try dsimp only at hSw); go_simp; try with_reducible rfl)
          simp only [Act.put, List.getElem_toArray, List.getElem_cons_zero, List.getElem_cons_succ, List.setIfInBounds_toArray, List.set_cons_zero, List.set_cons_succ]
          refine wpAnyH_done (by kernel_rfl) ?_ _
          have hbW := hHeld.1
          clear hHeld hS1 keepS
          have hbz := hb.trans (hbW.mono hb.size)
          repeat' ((fail_if_success at_builtin); (first | go_skip | go_guarded | go_step))
          go_roundw
          case rel => exact ⟨i + 1, by omega, by first | rfl | go_num, hbz⟩
          case measure => (try go_num); (try simp [intOf]); (try omega)
      · have i1 : ¬ (i : Int) < (vk : Int) := by omega
        have C := missing_any l A n c o t env J names AN cN wr (hS2.below hb) hJv (hNr2.upB hb) hO
        rw [hvg.out] at C
        replace C := Lib.hid C
        repeat' ((fail_if_success at_builtin); (first | (refine wpList_load_midG 57 _ rfl w.heap.size 4 rfl (by rfl) J _ hJr Tryd.underlying57 rfl (job_info hJv) ?_) | go_skip | go_guarded | go_step))
        refine C.out.mono ?_
        clear C
        rintro e w4 ⟨MA, mk, mc, rfl, hmk, hms, hb4⟩
        dsimp only
        have hbx := hbw.trans (hb4.mono hbw.size)
        have z32 := (range_up hJr hb4 hcl3) 28 _ hJv.c28
        have l1 : (vk : Int) ≤ (n : Int) := by have := hvn.out; have := hln.out; omega
        have l2 : (mk : Int) ≤ (names.length : Int) := by omega
        clear hms hmk y0 y1 y2 y3 y32 hJr
        repeat' ((fail_if_success at_builtin); (first | go_skip | go_guarded | go_step))
        refine (lives_any _).mono ?_
        rintro e wl ⟨rfl, hbl⟩
        dsimp only
        have hbf := hbx.trans (hbl.mono hbx.size)
        repeat' ((fail_if_success at_builtin); (first | go_skip | go_guarded | go_step))
        go_ret
        exact ⟨rfl, hbf⟩
end Go.Proofs.YtgloblokkejgmaaDoor
