/- Secret: the examples hold. -/
import Derived.Test.YtgloblokkejgmaaDoorSeC
namespace Go.Proofs.YtgloblokkejgmaaDoor
open Go.RowKit
def jLv (g : Nat) : List Value := [.string ⟨#[]⟩, .slice none 0 0, .int .i64 0, .string ⟨#[]⟩, .int .i64 0, .bool false, .int .i64 0, .string ⟨#[]⟩, .slice none 0 0, .slice none 0 0, .slice none 0 0, .slice none 0 0, .slice none 0 0, .slice none 0 0, .slice none 0 0, .string ⟨#[]⟩, .int .i64 0, .int .i64 0, .int .i64 0, .int .i64 0, .int .i64 0, .slice none 0 0, .int .i64 0, .int .i64 0, .slice none 0 0, .slice none 0 0, .slice none 0 0, .slice none 0 0, .slice (some ⟨g, 0, none⟩) 2 2, .string ⟨#[]⟩, .bool false, .int .i64 0, .slice none 0 0, .int .i64 0, .slice none 0 0, .int .i64 0, .int .i64 0, .bool false, .bool false]
theorem jLv_one (g : Nat) : (jLv g).toArray.all (·.oneCell') = true := by simp [jLv, Value.oneCell']
theorem wpList_build1 {P : Program} {ops : Array Oper} {rest : List Oper} {o : Oper} {a : Act} {w : World} {Q : Exit → Act → World → Prop} (hg : o.guard = none) (t : TypeId) (parts : Array (Nat × Operand)) (ho : o.op = .build t parts) {cells : Array Value}
    (hf : P.built t (parts.map fun (i, x) => (i, a.eval x)).toList = some cells) (h : wpList P ops Q rest (a.put o.dst (.agg cells)) w) : wpList P ops Q (o :: rest) a w := by
  refine wpList_build hg t parts ho (by rw [hf]; rfl) ?_
  rw [hf]
  exact h
theorem setRow_alloc (w : World) (old cells : Array Value) (t : TypeId) : (w.alloc (.cells old t)).setRow w.heap.size cells = w.alloc (.cells cells t) := by
  unfold World.setRow World.alloc
  congr 1
  apply Array.ext
  · simp
  · intro i h1 h2
    rw [Array.getElem_modify]
    by_cases hi : w.heap.size = i
    · subst hi
      simp
    · rw [if_neg hi]
      simp only [Array.size_push] at h2
      rw [Array.getElem_push_lt (by omega), Array.getElem_push_lt (by omega)]
theorem wpList_load_midG {P : Program} {ops : Array Oper} {rest : List Oper} {op : Oper} {a : Act} {w : World} {Q : Exit → Act → World → Prop} (ty : TypeId) (x : Operand) (ho : op.op = .load ty x) (b o : Nat) (hx : a.eval x = .pointer (some ⟨b, o, none⟩)) (hw : Region.wanted op (yielded ops a.tmps) = true) (cs : List Value) (d : TypeDesc) (hc : w.rangeAt b o cs)
    (hu : P.underlying ty = some d) (hd : d.isRow = true) (hi : (P.info? ty).map (·.size) = some cs.length) (h : wpList P ops Q rest (a.put op.dst (.agg cs.toArray)) w) : wpList P ops Q (op :: rest) a w := by
  simp only [wpList, hw, if_true]
  exact .inl (wp_load_mid ty x ho b o hx cs d hc hu hd hi h)
def sLv : Sec := ⟨⟨#[107, 101, 121]⟩, ⟨#[97, 98, 99, 100]⟩, 1, [⟨#[109, 97, 105, 110]⟩, ⟨#[114, 101, 108, 101, 97, 115, 101, 47, 42]⟩], []⟩
def oLv : Org := ⟨⟨#[112]⟩, ⟨#[114, 101, 108, 101, 97, 115, 101, 47, 50]⟩, false⟩
abbrev nLv : List ByteArray := [⟨#[107, 101, 121]⟩, ⟨#[111, 116, 104, 101, 114]⟩]
theorem lv1 : vE sLv = 0 := by decide +kernel
theorem lv2 : putE (vE sLv) [] sLv = 0 := by rw [lv1]; rfl
theorem lv3 : putR (vE sLv) [] sLv = [sLv] := by rw [lv1]; rfl
theorem lv4 : mayS anyB sLv oLv 1 ⟨#[]⟩ = true := by decide +kernel
theorem lv5 : mayS anyB sLv oLv 0 ⟨#[]⟩ = false := by decide +kernel
theorem lv6 : (visB nLv oLv 1 ⟨#[]⟩ [sLv]).length = 1 := by decide +kernel
theorem lv7 : missL (visB nLv oLv 1 ⟨#[]⟩ [sLv]) nLv = [⟨#[111, 116, 104, 101, 114]⟩] := by decide +kernel
theorem lvW : SecW sLv := ⟨by decide, by decide, by decide, by decide, by decide, by decide⟩
theorem strs_cells {w : World} {g : Nat} {l : List ByteArray} (h : CellsAt w g (cellsS l)) : StrsR w (fun b => b < w.heap.size) (some ⟨g, 0, none⟩) l.length l :=
  ⟨⟨by simp, fun _ => ⟨g, 0, rfl, h.lt, fun j u hu => by rw [Nat.zero_add]; exact h.cell j u hu⟩⟩, Nat.le_refl _, fun h => by cases h⟩
set_option maxRecDepth 100000 in
set_option maxHeartbeats 6000000 in
theorem lives_any (w : World) : Calls Tryd.prog 10 #[] w fun e w' => e = .returned (.bool true) ∧ Below w.heap.size w w' := by
  go_enter Tryd.func10, Tryd.ntmps10
  go_upto_region 3 with (fail)
  generalize hx_ : World.alloc (World.alloc (World.alloc w _) _) _ = wo1
  have hO1 : OwnB w wo1 [(w.heap.size + 2, [.string ⟨#[112]⟩, .string ⟨#[114, 101, 108, 101, 97, 115, 101, 47, 50]⟩, .bool false]), (w.heap.size + 1, [.string ⟨#[107, 101, 121]⟩, .string ⟨#[97, 98, 99, 100]⟩, .int .i64 1, .slice (some ⟨w.heap.size, 0, none⟩) 2 2, .slice none 0 0]), (w.heap.size, [.string ⟨#[109, 97, 105, 110]⟩, .string ⟨#[114, 101, 108, 101, 97, 115, 101, 47, 42]⟩])] := by rw [← hx_]; exact (((OwnB.refl w).new #[.string ⟨#[109, 97, 105, 110]⟩, .string ⟨#[114, 101, 108, 101, 97, 115, 101, 47, 42]⟩] _ (g := w.heap.size)).new #[.string ⟨#[107, 101, 121]⟩, .string ⟨#[97, 98, 99, 100]⟩, .int .i64 1, .slice (some ⟨w.heap.size, 0, none⟩) 2 2, .slice none 0 0] _ (g := w.heap.size + 1)).new #[.string ⟨#[112]⟩, .string ⟨#[114, 101, 108, 101, 97, 115, 101, 47, 50]⟩, .bool false] _ (g := w.heap.size + 2)
  have hbn : Below w.heap.size w wo1 := by rw [← hx_]; exact (((Below.refl _ _).alloc (Nat.le_refl _) _).alloc (by simp) _).alloc (by simp; omega) _
  have zwo1 : w.heap.size + 2 < wo1.heap.size := by rw [← hx_]; simp <;> omega
  clear hx_
  have c0_0 : wo1.cell? ⟨w.heap.size + 2, 0, none⟩ = some (.string ⟨#[112]⟩) := hO1.c 0 0
  have c0_1 : wo1.cell? ⟨w.heap.size + 2, 1, none⟩ = some (.string ⟨#[114, 101, 108, 101, 97, 115, 101, 47, 50]⟩) := hO1.c 0 1
  have c0_2 : wo1.cell? ⟨w.heap.size + 2, 2, none⟩ = some (.bool false) := hO1.c 0 2
  have cf0 := hO1.fr 0
  have c1_0 : wo1.cell? ⟨w.heap.size + 1, 0, none⟩ = some (.string ⟨#[107, 101, 121]⟩) := hO1.c 1 0
  have c1_1 : wo1.cell? ⟨w.heap.size + 1, 1, none⟩ = some (.string ⟨#[97, 98, 99, 100]⟩) := hO1.c 1 1
  have c1_2 : wo1.cell? ⟨w.heap.size + 1, 2, none⟩ = some (.int .i64 1) := hO1.c 1 2
  have c1_3 : wo1.cell? ⟨w.heap.size + 1, 3, none⟩ = some (.slice (some ⟨w.heap.size, 0, none⟩) 2 2) := hO1.c 1 3
  have c1_4 : wo1.cell? ⟨w.heap.size + 1, 4, none⟩ = some (.slice none 0 0) := hO1.c 1 4
  have cf1 := hO1.fr 1
  have c2_0 : wo1.cell? ⟨w.heap.size, 0, none⟩ = some (.string ⟨#[109, 97, 105, 110]⟩) := hO1.c 2 0
  have c2_1 : wo1.cell? ⟨w.heap.size, 1, none⟩ = some (.string ⟨#[114, 101, 108, 101, 97, 115, 101, 47, 42]⟩) := hO1.c 2 1
  have cf2 := hO1.fr 2
  clear hbn
  go_step
  go_step
  go_step
  go_step
  generalize hx_ : World.alloc wo1 _ = wo2
  have hO2 : OwnB w wo2 [(wo1.heap.size, [.string ⟨#[107, 101, 121]⟩, .string ⟨#[111, 116, 104, 101, 114]⟩]), (w.heap.size + 2, [.string ⟨#[112]⟩, .string ⟨#[114, 101, 108, 101, 97, 115, 101, 47, 50]⟩, .bool false]), (w.heap.size + 1, [.string ⟨#[107, 101, 121]⟩, .string ⟨#[97, 98, 99, 100]⟩, .int .i64 1, .slice (some ⟨w.heap.size, 0, none⟩) 2 2, .slice none 0 0]), (w.heap.size, [.string ⟨#[109, 97, 105, 110]⟩, .string ⟨#[114, 101, 108, 101, 97, 115, 101, 47, 42]⟩])] := by rw [← hx_]; exact hO1.new #[.string ⟨#[107, 101, 121]⟩, .string ⟨#[111, 116, 104, 101, 114]⟩] _ (g := wo1.heap.size)
  have hbn : Below wo1.heap.size wo1 wo2 := by rw [← hx_]; exact (Below.refl _ _).alloc (Nat.le_refl _) _
  have zwo2 : wo1.heap.size + 0 < wo2.heap.size := by rw [← hx_]; simp <;> omega
  clear hx_ c0_0 c0_1 c0_2 cf0 c1_0 c1_1 c1_2 c1_3 c1_4 cf1 c2_0 c2_1 cf2 hO1
  have c0_0 : wo2.cell? ⟨wo1.heap.size, 0, none⟩ = some (.string ⟨#[107, 101, 121]⟩) := hO2.c 0 0
  have c0_1 : wo2.cell? ⟨wo1.heap.size, 1, none⟩ = some (.string ⟨#[111, 116, 104, 101, 114]⟩) := hO2.c 0 1
  have cf0 := hO2.fr 0
  have c1_0 : wo2.cell? ⟨w.heap.size + 2, 0, none⟩ = some (.string ⟨#[112]⟩) := hO2.c 1 0
  have c1_1 : wo2.cell? ⟨w.heap.size + 2, 1, none⟩ = some (.string ⟨#[114, 101, 108, 101, 97, 115, 101, 47, 50]⟩) := hO2.c 1 1
  have c1_2 : wo2.cell? ⟨w.heap.size + 2, 2, none⟩ = some (.bool false) := hO2.c 1 2
  have cf1 := hO2.fr 1
  have c2_0 : wo2.cell? ⟨w.heap.size + 1, 0, none⟩ = some (.string ⟨#[107, 101, 121]⟩) := hO2.c 2 0
  have c2_1 : wo2.cell? ⟨w.heap.size + 1, 1, none⟩ = some (.string ⟨#[97, 98, 99, 100]⟩) := hO2.c 2 1
  have c2_2 : wo2.cell? ⟨w.heap.size + 1, 2, none⟩ = some (.int .i64 1) := hO2.c 2 2
  have c2_3 : wo2.cell? ⟨w.heap.size + 1, 3, none⟩ = some (.slice (some ⟨w.heap.size, 0, none⟩) 2 2) := hO2.c 2 3
  have c2_4 : wo2.cell? ⟨w.heap.size + 1, 4, none⟩ = some (.slice none 0 0) := hO2.c 2 4
  have cf2 := hO2.fr 2
  have c3_0 : wo2.cell? ⟨w.heap.size, 0, none⟩ = some (.string ⟨#[109, 97, 105, 110]⟩) := hO2.c 3 0
  have c3_1 : wo2.cell? ⟨w.heap.size, 1, none⟩ = some (.string ⟨#[114, 101, 108, 101, 97, 115, 101, 47, 42]⟩) := hO2.c 3 1
  have cf3 := hO2.fr 3
  clear hbn
  refine wpList_build1 rfl 57 _ rfl (cells := (jLv wo1.heap.size).toArray) (by kernel_rfl) ?_
  dsimp only [Act.put]
  go_step
  go_step
  go_step
  have hW := fun old => setRow_alloc wo2 old (jLv wo1.heap.size).toArray 57
  refine wpList_store_row rfl 57 _ _ rfl wo2.heap.size (jLv wo1.heap.size).toArray rfl rfl 57 _ (heap_alloc_new wo2 _) (by kernel_rfl) rfl (jLv_one _) ?_
  rw [hW]
  clear hW
  dsimp only [Act.put]
  have hJr := range_new wo2 (jLv wo1.heap.size) 57
  have hJV : JobV (jLv wo1.heap.size) nLv (some ⟨wo1.heap.size, 0, none⟩) 2 ⟨#[]⟩ := ⟨rfl, rfl, rfl, by decide, by decide⟩
  have hbn3 := (Below.refl wo2.heap.size wo2).alloc (Nat.le_refl _) (.cells (jLv wo1.heap.size).toArray 57)
  have zw3 : wo2.heap.size < (wo2.alloc (.cells (jLv wo1.heap.size).toArray 57)).heap.size := by simp
  generalize World.alloc wo2 _ = wo3 at *
  generalize jLv wo1.heap.size = J at *
  have hO3 : OwnB w wo3 [(wo1.heap.size, [.string ⟨#[107, 101, 121]⟩, .string ⟨#[111, 116, 104, 101, 114]⟩]), (w.heap.size + 2, [.string ⟨#[112]⟩, .string ⟨#[114, 101, 108, 101, 97, 115, 101, 47, 50]⟩, .bool false]), (w.heap.size + 1, [.string ⟨#[107, 101, 121]⟩, .string ⟨#[97, 98, 99, 100]⟩, .int .i64 1, .slice (some ⟨w.heap.size, 0, none⟩) 2 2, .slice none 0 0]), (w.heap.size, [.string ⟨#[109, 97, 105, 110]⟩, .string ⟨#[114, 101, 108, 101, 97, 115, 101, 47, 42]⟩])] := hO2.kept hbn3
  clear c0_0 c0_1 cf0 c1_0 c1_1 c1_2 cf1 c2_0 c2_1 c2_2 c2_3 c2_4 cf2 c3_0 c3_1 cf3 hO2
  have c0_0 : wo3.cell? ⟨wo1.heap.size, 0, none⟩ = some (.string ⟨#[107, 101, 121]⟩) := hO3.c 0 0
  have c0_1 : wo3.cell? ⟨wo1.heap.size, 1, none⟩ = some (.string ⟨#[111, 116, 104, 101, 114]⟩) := hO3.c 0 1
  have cf0 := hO3.fr 0
  have c1_0 : wo3.cell? ⟨w.heap.size + 2, 0, none⟩ = some (.string ⟨#[112]⟩) := hO3.c 1 0
  have c1_1 : wo3.cell? ⟨w.heap.size + 2, 1, none⟩ = some (.string ⟨#[114, 101, 108, 101, 97, 115, 101, 47, 50]⟩) := hO3.c 1 1
  have c1_2 : wo3.cell? ⟨w.heap.size + 2, 2, none⟩ = some (.bool false) := hO3.c 1 2
  have cf1 := hO3.fr 1
  have c2_0 : wo3.cell? ⟨w.heap.size + 1, 0, none⟩ = some (.string ⟨#[107, 101, 121]⟩) := hO3.c 2 0
  have c2_1 : wo3.cell? ⟨w.heap.size + 1, 1, none⟩ = some (.string ⟨#[97, 98, 99, 100]⟩) := hO3.c 2 1
  have c2_2 : wo3.cell? ⟨w.heap.size + 1, 2, none⟩ = some (.int .i64 1) := hO3.c 2 2
  have c2_3 : wo3.cell? ⟨w.heap.size + 1, 3, none⟩ = some (.slice (some ⟨w.heap.size, 0, none⟩) 2 2) := hO3.c 2 3
  have c2_4 : wo3.cell? ⟨w.heap.size + 1, 4, none⟩ = some (.slice none 0 0) := hO3.c 2 4
  have cf2 := hO3.fr 2
  have c3_0 : wo3.cell? ⟨w.heap.size, 0, none⟩ = some (.string ⟨#[109, 97, 105, 110]⟩) := hO3.c 3 0
  have c3_1 : wo3.cell? ⟨w.heap.size, 1, none⟩ = some (.string ⟨#[114, 101, 108, 101, 97, 115, 101, 47, 42]⟩) := hO3.c 3 1
  have cf3 := hO3.fr 3
  have hbw := hO3.below
  have C := put_any [] none 0 0 sLv (some ⟨w.heap.size, 0, none⟩) 2 none 0 wo3 ⟨⟨rfl, Nat.le_refl _, fun _ => rfl, [], SeqP.nil_, rfl⟩, Nat.zero_le _, fun x hx => by cases hx⟩ (strs_cells (l := sLv.refs) (hO3.all 3 _ _ rfl).2) StrsR.nil_ lvW
  unfold RetPut at C
  rw [lv2, lv3] at C
  replace C := Lib.hid C
  repeat' ((fail_if_success at_builtin); (first | go_skip | go_guarded | go_step))
  refine C.out.mono ?_
  clear C
  rintro e w1 ⟨LA, Ln, Lc, rfl, hls, hb1⟩
  obtain rfl : Ln = 1 := hls.1.symm
  dsimp only
  have hSS : Secs w1 LA 1 Lc [sLv] := ⟨hls, by decide, fun x hx => by rw [List.mem_singleton.1 hx]; exact lvW⟩
  clear hls hbw
  have zw1 := hb1.size
  have hO4 : OwnB w w1 [(wo1.heap.size, [.string ⟨#[107, 101, 121]⟩, .string ⟨#[111, 116, 104, 101, 114]⟩]), (w.heap.size + 2, [.string ⟨#[112]⟩, .string ⟨#[114, 101, 108, 101, 97, 115, 101, 47, 50]⟩, .bool false]), (w.heap.size + 1, [.string ⟨#[107, 101, 121]⟩, .string ⟨#[97, 98, 99, 100]⟩, .int .i64 1, .slice (some ⟨w.heap.size, 0, none⟩) 2 2, .slice none 0 0]), (w.heap.size, [.string ⟨#[109, 97, 105, 110]⟩, .string ⟨#[114, 101, 108, 101, 97, 115, 101, 47, 42]⟩])] := hO3.kept hb1
  clear c0_0 c0_1 cf0 c1_0 c1_1 c1_2 cf1 c2_0 c2_1 c2_2 c2_3 c2_4 cf2 c3_0 c3_1 cf3 hO3
  have c0_0 : w1.cell? ⟨wo1.heap.size, 0, none⟩ = some (.string ⟨#[107, 101, 121]⟩) := hO4.c 0 0
  have c0_1 : w1.cell? ⟨wo1.heap.size, 1, none⟩ = some (.string ⟨#[111, 116, 104, 101, 114]⟩) := hO4.c 0 1
  have cf0 := hO4.fr 0
  have c1_0 : w1.cell? ⟨w.heap.size + 2, 0, none⟩ = some (.string ⟨#[112]⟩) := hO4.c 1 0
  have c1_1 : w1.cell? ⟨w.heap.size + 2, 1, none⟩ = some (.string ⟨#[114, 101, 108, 101, 97, 115, 101, 47, 50]⟩) := hO4.c 1 1
  have c1_2 : w1.cell? ⟨w.heap.size + 2, 2, none⟩ = some (.bool false) := hO4.c 1 2
  have cf1 := hO4.fr 1
  have c2_0 : w1.cell? ⟨w.heap.size + 1, 0, none⟩ = some (.string ⟨#[107, 101, 121]⟩) := hO4.c 2 0
  have c2_1 : w1.cell? ⟨w.heap.size + 1, 1, none⟩ = some (.string ⟨#[97, 98, 99, 100]⟩) := hO4.c 2 1
  have c2_2 : w1.cell? ⟨w.heap.size + 1, 2, none⟩ = some (.int .i64 1) := hO4.c 2 2
  have c2_3 : w1.cell? ⟨w.heap.size + 1, 3, none⟩ = some (.slice (some ⟨w.heap.size, 0, none⟩) 2 2) := hO4.c 2 3
  have c2_4 : w1.cell? ⟨w.heap.size + 1, 4, none⟩ = some (.slice none 0 0) := hO4.c 2 4
  have cf2 := hO4.fr 2
  have c3_0 : w1.cell? ⟨w.heap.size, 0, none⟩ = some (.string ⟨#[109, 97, 105, 110]⟩) := hO4.c 3 0
  have c3_1 : w1.cell? ⟨w.heap.size, 1, none⟩ = some (.string ⟨#[114, 101, 108, 101, 97, 115, 101, 47, 42]⟩) := hO4.c 3 1
  have cf3 := hO4.fr 3
  replace hJr : w1.rangeAt wo2.heap.size 0 J := range_up hJr hb1 (by omega)
  have C := valid_any sLv (some ⟨w.heap.size, 0, none⟩) 2 none 0 w1 (strs_cells (l := sLv.refs) (hO4.all 3 _ _ rfl).2) StrsR.nil_ lvW
  rw [lv1] at C
  replace C := Lib.hid C
  repeat' ((fail_if_success at_builtin); (first | (refine wpList_load_midG 57 _ rfl wo2.heap.size 0 rfl (by rfl) J _ hJr Tryd.underlying57 rfl (job_info hJV) ?_) | go_skip | go_guarded | go_step))
  refine C.out.mono ?_
  clear C
  rintro e w2 ⟨rfl, hb2⟩
  dsimp only
  have zw2 := hb2.size
  have hO5 : OwnB w w2 [(wo1.heap.size, [.string ⟨#[107, 101, 121]⟩, .string ⟨#[111, 116, 104, 101, 114]⟩]), (w.heap.size + 2, [.string ⟨#[112]⟩, .string ⟨#[114, 101, 108, 101, 97, 115, 101, 47, 50]⟩, .bool false]), (w.heap.size + 1, [.string ⟨#[107, 101, 121]⟩, .string ⟨#[97, 98, 99, 100]⟩, .int .i64 1, .slice (some ⟨w.heap.size, 0, none⟩) 2 2, .slice none 0 0]), (w.heap.size, [.string ⟨#[109, 97, 105, 110]⟩, .string ⟨#[114, 101, 108, 101, 97, 115, 101, 47, 42]⟩])] := hO4.kept hb2
  clear c0_0 c0_1 cf0 c1_0 c1_1 c1_2 cf1 c2_0 c2_1 c2_2 c2_3 c2_4 cf2 c3_0 c3_1 cf3 hO4
  have c0_0 : w2.cell? ⟨wo1.heap.size, 0, none⟩ = some (.string ⟨#[107, 101, 121]⟩) := hO5.c 0 0
  have c0_1 : w2.cell? ⟨wo1.heap.size, 1, none⟩ = some (.string ⟨#[111, 116, 104, 101, 114]⟩) := hO5.c 0 1
  have cf0 := hO5.fr 0
  have c1_0 : w2.cell? ⟨w.heap.size + 2, 0, none⟩ = some (.string ⟨#[112]⟩) := hO5.c 1 0
  have c1_1 : w2.cell? ⟨w.heap.size + 2, 1, none⟩ = some (.string ⟨#[114, 101, 108, 101, 97, 115, 101, 47, 50]⟩) := hO5.c 1 1
  have c1_2 : w2.cell? ⟨w.heap.size + 2, 2, none⟩ = some (.bool false) := hO5.c 1 2
  have cf1 := hO5.fr 1
  have c2_0 : w2.cell? ⟨w.heap.size + 1, 0, none⟩ = some (.string ⟨#[107, 101, 121]⟩) := hO5.c 2 0
  have c2_1 : w2.cell? ⟨w.heap.size + 1, 1, none⟩ = some (.string ⟨#[97, 98, 99, 100]⟩) := hO5.c 2 1
  have c2_2 : w2.cell? ⟨w.heap.size + 1, 2, none⟩ = some (.int .i64 1) := hO5.c 2 2
  have c2_3 : w2.cell? ⟨w.heap.size + 1, 3, none⟩ = some (.slice (some ⟨w.heap.size, 0, none⟩) 2 2) := hO5.c 2 3
  have c2_4 : w2.cell? ⟨w.heap.size + 1, 4, none⟩ = some (.slice none 0 0) := hO5.c 2 4
  have cf2 := hO5.fr 2
  have c3_0 : w2.cell? ⟨w.heap.size, 0, none⟩ = some (.string ⟨#[109, 97, 105, 110]⟩) := hO5.c 3 0
  have c3_1 : w2.cell? ⟨w.heap.size, 1, none⟩ = some (.string ⟨#[114, 101, 108, 101, 97, 115, 101, 47, 42]⟩) := hO5.c 3 1
  have cf3 := hO5.fr 3
  replace hJr : w2.rangeAt wo2.heap.size 0 J := range_up hJr hb2 (by omega)
  replace hSS : Secs w2 LA 1 Lc [sLv] := hSS.below hb2
  have C := may_any sLv (some ⟨w.heap.size, 0, none⟩) 2 none 0 oLv 1 ⟨#[]⟩ w2 (strs_cells (l := sLv.refs) (hO5.all 3 _ _ rfl).2) StrsR.nil_ lvW (by decide) (by decide)
  rw [lv4] at C
  replace C := Lib.hid C
  repeat' ((fail_if_success at_builtin); (first | (refine wpList_load_midG 57 _ rfl wo2.heap.size 0 rfl (by rfl) J _ hJr Tryd.underlying57 rfl (job_info hJV) ?_) | go_skip | go_guarded | go_step))
  refine C.out.mono ?_
  clear C
  rintro e w3 ⟨rfl, hb3⟩
  dsimp only
  have zw3 := hb3.size
  have hO6 : OwnB w w3 [(wo1.heap.size, [.string ⟨#[107, 101, 121]⟩, .string ⟨#[111, 116, 104, 101, 114]⟩]), (w.heap.size + 2, [.string ⟨#[112]⟩, .string ⟨#[114, 101, 108, 101, 97, 115, 101, 47, 50]⟩, .bool false]), (w.heap.size + 1, [.string ⟨#[107, 101, 121]⟩, .string ⟨#[97, 98, 99, 100]⟩, .int .i64 1, .slice (some ⟨w.heap.size, 0, none⟩) 2 2, .slice none 0 0]), (w.heap.size, [.string ⟨#[109, 97, 105, 110]⟩, .string ⟨#[114, 101, 108, 101, 97, 115, 101, 47, 42]⟩])] := hO5.kept hb3
  clear c0_0 c0_1 cf0 c1_0 c1_1 c1_2 cf1 c2_0 c2_1 c2_2 c2_3 c2_4 cf2 c3_0 c3_1 cf3 hO5
  have c0_0 : w3.cell? ⟨wo1.heap.size, 0, none⟩ = some (.string ⟨#[107, 101, 121]⟩) := hO6.c 0 0
  have c0_1 : w3.cell? ⟨wo1.heap.size, 1, none⟩ = some (.string ⟨#[111, 116, 104, 101, 114]⟩) := hO6.c 0 1
  have cf0 := hO6.fr 0
  have c1_0 : w3.cell? ⟨w.heap.size + 2, 0, none⟩ = some (.string ⟨#[112]⟩) := hO6.c 1 0
  have c1_1 : w3.cell? ⟨w.heap.size + 2, 1, none⟩ = some (.string ⟨#[114, 101, 108, 101, 97, 115, 101, 47, 50]⟩) := hO6.c 1 1
  have c1_2 : w3.cell? ⟨w.heap.size + 2, 2, none⟩ = some (.bool false) := hO6.c 1 2
  have cf1 := hO6.fr 1
  have c2_0 : w3.cell? ⟨w.heap.size + 1, 0, none⟩ = some (.string ⟨#[107, 101, 121]⟩) := hO6.c 2 0
  have c2_1 : w3.cell? ⟨w.heap.size + 1, 1, none⟩ = some (.string ⟨#[97, 98, 99, 100]⟩) := hO6.c 2 1
  have c2_2 : w3.cell? ⟨w.heap.size + 1, 2, none⟩ = some (.int .i64 1) := hO6.c 2 2
  have c2_3 : w3.cell? ⟨w.heap.size + 1, 3, none⟩ = some (.slice (some ⟨w.heap.size, 0, none⟩) 2 2) := hO6.c 2 3
  have c2_4 : w3.cell? ⟨w.heap.size + 1, 4, none⟩ = some (.slice none 0 0) := hO6.c 2 4
  have cf2 := hO6.fr 2
  have c3_0 : w3.cell? ⟨w.heap.size, 0, none⟩ = some (.string ⟨#[109, 97, 105, 110]⟩) := hO6.c 3 0
  have c3_1 : w3.cell? ⟨w.heap.size, 1, none⟩ = some (.string ⟨#[114, 101, 108, 101, 97, 115, 101, 47, 42]⟩) := hO6.c 3 1
  have cf3 := hO6.fr 3
  replace hJr : w3.rangeAt wo2.heap.size 0 J := range_up hJr hb3 (by omega)
  replace hSS : Secs w3 LA 1 Lc [sLv] := hSS.below hb3
  have C := may_any sLv (some ⟨w.heap.size, 0, none⟩) 2 none 0 oLv 0 ⟨#[]⟩ w3 (strs_cells (l := sLv.refs) (hO6.all 3 _ _ rfl).2) StrsR.nil_ lvW (by decide) (by decide)
  rw [lv5] at C
  replace C := Lib.hid C
  repeat' ((fail_if_success at_builtin); (first | (refine wpList_load_midG 57 _ rfl wo2.heap.size 0 rfl (by rfl) J _ hJr Tryd.underlying57 rfl (job_info hJV) ?_) | go_skip | go_guarded | go_step))
  refine C.out.mono ?_
  clear C
  rintro e w4 ⟨rfl, hb4⟩
  dsimp only
  have zw4 := hb4.size
  have hO7 : OwnB w w4 [(wo1.heap.size, [.string ⟨#[107, 101, 121]⟩, .string ⟨#[111, 116, 104, 101, 114]⟩]), (w.heap.size + 2, [.string ⟨#[112]⟩, .string ⟨#[114, 101, 108, 101, 97, 115, 101, 47, 50]⟩, .bool false]), (w.heap.size + 1, [.string ⟨#[107, 101, 121]⟩, .string ⟨#[97, 98, 99, 100]⟩, .int .i64 1, .slice (some ⟨w.heap.size, 0, none⟩) 2 2, .slice none 0 0]), (w.heap.size, [.string ⟨#[109, 97, 105, 110]⟩, .string ⟨#[114, 101, 108, 101, 97, 115, 101, 47, 42]⟩])] := hO6.kept hb4
  clear c0_0 c0_1 cf0 c1_0 c1_1 c1_2 cf1 c2_0 c2_1 c2_2 c2_3 c2_4 cf2 c3_0 c3_1 cf3 hO6
  have c0_0 : w4.cell? ⟨wo1.heap.size, 0, none⟩ = some (.string ⟨#[107, 101, 121]⟩) := hO7.c 0 0
  have c0_1 : w4.cell? ⟨wo1.heap.size, 1, none⟩ = some (.string ⟨#[111, 116, 104, 101, 114]⟩) := hO7.c 0 1
  have cf0 := hO7.fr 0
  have c1_0 : w4.cell? ⟨w.heap.size + 2, 0, none⟩ = some (.string ⟨#[112]⟩) := hO7.c 1 0
  have c1_1 : w4.cell? ⟨w.heap.size + 2, 1, none⟩ = some (.string ⟨#[114, 101, 108, 101, 97, 115, 101, 47, 50]⟩) := hO7.c 1 1
  have c1_2 : w4.cell? ⟨w.heap.size + 2, 2, none⟩ = some (.bool false) := hO7.c 1 2
  have cf1 := hO7.fr 1
  have c2_0 : w4.cell? ⟨w.heap.size + 1, 0, none⟩ = some (.string ⟨#[107, 101, 121]⟩) := hO7.c 2 0
  have c2_1 : w4.cell? ⟨w.heap.size + 1, 1, none⟩ = some (.string ⟨#[97, 98, 99, 100]⟩) := hO7.c 2 1
  have c2_2 : w4.cell? ⟨w.heap.size + 1, 2, none⟩ = some (.int .i64 1) := hO7.c 2 2
  have c2_3 : w4.cell? ⟨w.heap.size + 1, 3, none⟩ = some (.slice (some ⟨w.heap.size, 0, none⟩) 2 2) := hO7.c 2 3
  have c2_4 : w4.cell? ⟨w.heap.size + 1, 4, none⟩ = some (.slice none 0 0) := hO7.c 2 4
  have cf2 := hO7.fr 2
  have c3_0 : w4.cell? ⟨w.heap.size, 0, none⟩ = some (.string ⟨#[109, 97, 105, 110]⟩) := hO7.c 3 0
  have c3_1 : w4.cell? ⟨w.heap.size, 1, none⟩ = some (.string ⟨#[114, 101, 108, 101, 97, 115, 101, 47, 42]⟩) := hO7.c 3 1
  have cf3 := hO7.fr 3
  replace hJr : w4.rangeAt wo2.heap.size 0 J := range_up hJr hb4 (by omega)
  replace hSS : Secs w4 LA 1 Lc [sLv] := hSS.below hb4
  have C := visible_any [sLv] LA 1 Lc oLv 1 ⟨#[]⟩ J nLv (some ⟨wo1.heap.size, 0, none⟩) 2 w4 hSS hJV (strs_cells (l := nLv) (hO7.all 0 _ _ rfl).2) ⟨by decide⟩
  replace C := Lib.hid C
  repeat' ((fail_if_success at_builtin); (first | (refine wpList_load_midG 57 _ rfl wo2.heap.size 0 rfl (by rfl) J _ hJr Tryd.underlying57 rfl (job_info hJV) ?_) | go_skip | go_guarded | go_step))
  refine C.out.mono ?_
  clear C
  rintro e w5 ⟨VA, Vk, Vc, rfl, hvs, hb5⟩
  dsimp only
  obtain rfl : Vk = 1 := by have := hvs.n; rw [lv6] at this; exact this.symm
  clear hvs
  have zw5 := hb5.size
  have hO8 : OwnB w w5 [(wo1.heap.size, [.string ⟨#[107, 101, 121]⟩, .string ⟨#[111, 116, 104, 101, 114]⟩]), (w.heap.size + 2, [.string ⟨#[112]⟩, .string ⟨#[114, 101, 108, 101, 97, 115, 101, 47, 50]⟩, .bool false]), (w.heap.size + 1, [.string ⟨#[107, 101, 121]⟩, .string ⟨#[97, 98, 99, 100]⟩, .int .i64 1, .slice (some ⟨w.heap.size, 0, none⟩) 2 2, .slice none 0 0]), (w.heap.size, [.string ⟨#[109, 97, 105, 110]⟩, .string ⟨#[114, 101, 108, 101, 97, 115, 101, 47, 42]⟩])] := hO7.kept hb5
  clear c0_0 c0_1 cf0 c1_0 c1_1 c1_2 cf1 c2_0 c2_1 c2_2 c2_3 c2_4 cf2 c3_0 c3_1 cf3 hO7
  have c0_0 : w5.cell? ⟨wo1.heap.size, 0, none⟩ = some (.string ⟨#[107, 101, 121]⟩) := hO8.c 0 0
  have c0_1 : w5.cell? ⟨wo1.heap.size, 1, none⟩ = some (.string ⟨#[111, 116, 104, 101, 114]⟩) := hO8.c 0 1
  have cf0 := hO8.fr 0
  have c1_0 : w5.cell? ⟨w.heap.size + 2, 0, none⟩ = some (.string ⟨#[112]⟩) := hO8.c 1 0
  have c1_1 : w5.cell? ⟨w.heap.size + 2, 1, none⟩ = some (.string ⟨#[114, 101, 108, 101, 97, 115, 101, 47, 50]⟩) := hO8.c 1 1
  have c1_2 : w5.cell? ⟨w.heap.size + 2, 2, none⟩ = some (.bool false) := hO8.c 1 2
  have cf1 := hO8.fr 1
  have c2_0 : w5.cell? ⟨w.heap.size + 1, 0, none⟩ = some (.string ⟨#[107, 101, 121]⟩) := hO8.c 2 0
  have c2_1 : w5.cell? ⟨w.heap.size + 1, 1, none⟩ = some (.string ⟨#[97, 98, 99, 100]⟩) := hO8.c 2 1
  have c2_2 : w5.cell? ⟨w.heap.size + 1, 2, none⟩ = some (.int .i64 1) := hO8.c 2 2
  have c2_3 : w5.cell? ⟨w.heap.size + 1, 3, none⟩ = some (.slice (some ⟨w.heap.size, 0, none⟩) 2 2) := hO8.c 2 3
  have c2_4 : w5.cell? ⟨w.heap.size + 1, 4, none⟩ = some (.slice none 0 0) := hO8.c 2 4
  have cf2 := hO8.fr 2
  have c3_0 : w5.cell? ⟨w.heap.size, 0, none⟩ = some (.string ⟨#[109, 97, 105, 110]⟩) := hO8.c 3 0
  have c3_1 : w5.cell? ⟨w.heap.size, 1, none⟩ = some (.string ⟨#[114, 101, 108, 101, 97, 115, 101, 47, 42]⟩) := hO8.c 3 1
  have cf3 := hO8.fr 3
  replace hJr : w5.rangeAt wo2.heap.size 0 J := range_up hJr hb5 (by omega)
  replace hSS : Secs w5 LA 1 Lc [sLv] := hSS.below hb5
  have C := missing_any [sLv] LA 1 Lc oLv 1 ⟨#[]⟩ J nLv (some ⟨wo1.heap.size, 0, none⟩) 2 w5 hSS hJV (strs_cells (l := nLv) (hO8.all 0 _ _ rfl).2) ⟨by decide⟩
  rw [lv7] at C
  replace C := Lib.hid C
  repeat' ((fail_if_success at_builtin); (first | (refine wpList_load_midG 57 _ rfl wo2.heap.size 0 rfl (by rfl) J _ hJr Tryd.underlying57 rfl (job_info hJV) ?_) | go_skip | go_guarded | go_step))
  refine C.out.mono ?_
  clear C
  rintro e w6 ⟨MA, Mk, Mc, rfl, hmk, hms, hb6⟩
  dsimp only
  obtain rfl : Mk = 1 := hmk.symm
  clear hmk
  clear hSS hJr
  have zw6 := hb6.size
  have hO9 : OwnB w w6 [(wo1.heap.size, [.string ⟨#[107, 101, 121]⟩, .string ⟨#[111, 116, 104, 101, 114]⟩]), (w.heap.size + 2, [.string ⟨#[112]⟩, .string ⟨#[114, 101, 108, 101, 97, 115, 101, 47, 50]⟩, .bool false]), (w.heap.size + 1, [.string ⟨#[107, 101, 121]⟩, .string ⟨#[97, 98, 99, 100]⟩, .int .i64 1, .slice (some ⟨w.heap.size, 0, none⟩) 2 2, .slice none 0 0]), (w.heap.size, [.string ⟨#[109, 97, 105, 110]⟩, .string ⟨#[114, 101, 108, 101, 97, 115, 101, 47, 42]⟩])] := hO8.kept hb6
  clear c0_0 c0_1 cf0 c1_0 c1_1 c1_2 cf1 c2_0 c2_1 c2_2 c2_3 c2_4 cf2 c3_0 c3_1 cf3 hO8
  have c0_0 : w6.cell? ⟨wo1.heap.size, 0, none⟩ = some (.string ⟨#[107, 101, 121]⟩) := hO9.c 0 0
  have c0_1 : w6.cell? ⟨wo1.heap.size, 1, none⟩ = some (.string ⟨#[111, 116, 104, 101, 114]⟩) := hO9.c 0 1
  have cf0 := hO9.fr 0
  have c1_0 : w6.cell? ⟨w.heap.size + 2, 0, none⟩ = some (.string ⟨#[112]⟩) := hO9.c 1 0
  have c1_1 : w6.cell? ⟨w.heap.size + 2, 1, none⟩ = some (.string ⟨#[114, 101, 108, 101, 97, 115, 101, 47, 50]⟩) := hO9.c 1 1
  have c1_2 : w6.cell? ⟨w.heap.size + 2, 2, none⟩ = some (.bool false) := hO9.c 1 2
  have cf1 := hO9.fr 1
  have c2_0 : w6.cell? ⟨w.heap.size + 1, 0, none⟩ = some (.string ⟨#[107, 101, 121]⟩) := hO9.c 2 0
  have c2_1 : w6.cell? ⟨w.heap.size + 1, 1, none⟩ = some (.string ⟨#[97, 98, 99, 100]⟩) := hO9.c 2 1
  have c2_2 : w6.cell? ⟨w.heap.size + 1, 2, none⟩ = some (.int .i64 1) := hO9.c 2 2
  have c2_3 : w6.cell? ⟨w.heap.size + 1, 3, none⟩ = some (.slice (some ⟨w.heap.size, 0, none⟩) 2 2) := hO9.c 2 3
  have c2_4 : w6.cell? ⟨w.heap.size + 1, 4, none⟩ = some (.slice none 0 0) := hO9.c 2 4
  have cf2 := hO9.fr 2
  have c3_0 : w6.cell? ⟨w.heap.size, 0, none⟩ = some (.string ⟨#[109, 97, 105, 110]⟩) := hO9.c 3 0
  have c3_1 : w6.cell? ⟨w.heap.size, 1, none⟩ = some (.string ⟨#[114, 101, 108, 101, 97, 115, 101, 47, 42]⟩) := hO9.c 3 1
  have cf3 := hO9.fr 3
  have hbw := hO9.below
  have hba := (Below.refl w6.heap.size w6).alloc (Nat.le_refl _) (.cells #[.string ⟨#[111, 116, 104, 101, 114]⟩] 9)
  have hCo := CellsAt.new w6 #[.string ⟨#[111, 116, 104, 101, 114]⟩] 9
  have CS := refSame_any [⟨#[111, 116, 104, 101, 114]⟩] [⟨#[111, 116, 104, 101, 114]⟩] MA (some ⟨w6.heap.size, 0, none⟩) Mc 1 w6.heap.size (w6.heap.size + 1) (w6.alloc (.cells #[.string ⟨#[111, 116, 104, 101, 114]⟩] 9)) (Seq.below hms.seq hba) (by have := (strs_cells (l := [⟨#[111, 116, 104, 101, 114]⟩]) hCo).seq; simpa using this) (by decide)
  rw [sameL_refl] at CS
  replace CS := Lib.hid CS
  have hbf := hbw.trans (hba.mono hbw.size)
  replace hbf := Lib.hid hbf
  clear hCo hba hms
  repeat' ((fail_if_success at_builtin); (first | go_skip | go_guarded | go_step))
  refine CS.out.mono ?_
  clear CS
  rintro e w7 ⟨rfl, hb7⟩
  dsimp only
  have hbz := hbf.out.trans (hb7.mono hbf.out.size)
  repeat' ((fail_if_success at_builtin); (first | go_skip | go_guarded | go_step))
  go_ret
  exact ⟨rfl, hbz⟩
end Go.Proofs.YtgloblokkejgmaaDoor
