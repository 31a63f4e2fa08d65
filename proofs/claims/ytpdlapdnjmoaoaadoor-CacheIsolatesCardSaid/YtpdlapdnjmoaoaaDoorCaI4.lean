/- Cache: the law Isolates: acts, and what holds between calls. -/
import Derived.Test.YtpdlapdnjmoaoaaDoorCaI3
import Derived.Test.YtpdlapdnjmoaoaaDoorCaLv
import Derived.Test.YtpdlapdnjmoaoaaDoorCaA
import Derived.Test.YtpdlapdnjmoaoaaDoorCaFw
import Derived.Test.YtpdlapdnjmoaoaaDoorCaS
namespace Go.Proofs.YtpdlapdnjmoaoaaDoor
open Go.RowKit
structure Acn where
  touch : Bool
  wait : Int
  o : Org
  e : Ent
abbrev act13 (a : Acn) : Array Value := #[.bool a.touch, .int .i64 a.wait, .string a.o.prj, .string a.o.ref, .bool a.o.fork, .string a.e.sc.prj, .int .i64 a.e.sc.trust, .string a.e.sc.ref, .string a.e.key, .int .u64 a.e.dig, .int .i64 a.e.size, .int .i64 a.e.created, .int .i64 a.e.used]
abbrev actsC (l : List Acn) : List Value := l.flatMap fun a => (act13 a).toList
structure Acn.text (a : Acn) : Prop where
  p : a.o.prj.size ≤ 9223372036854775807
  r : a.o.ref.size ≤ 9223372036854775807
  e : a.e.text
  n : a.e.nums
def CellsA (w : World) (b o : Nat) (a : Acn) : Prop := ∀ j u, (act13 a).toList[j]? = some u → w.cell? ⟨b, o + j, none⟩ = some u
theorem act_at {w : World} {B n i : Nat} {A : Option Addr} {l : List Acn} {a : Acn} (hs : Seq w B 13 A n (actsC l)) (hn : n = l.length) (ha : l[i]? = some a) : ∃ b o, A = some ⟨b, o, none⟩ ∧ b < B ∧ CellsA w b (o + i * 13) a := by
  have hi := (List.getElem?_eq_some_iff.1 ha).1
  obtain ⟨b, o, rfl, hb, hc⟩ := hs.2 (by omega)
  refine ⟨b, o, rfl, hb, fun j u hu => ?_⟩
  rw [Nat.add_assoc]
  exact hc _ _ (flatE_at (f := fun a => (act13 a).toList) (sz := 13) (fun _ => rfl) ha hu)
theorem CellsA.map {w w' : World} {b o : Nat} {a : Acn} (h : CellsA w b o a) (hk : ∀ j, w'.cell? ⟨b, o + j, none⟩ = w.cell? ⟨b, o + j, none⟩) : CellsA w' b o a := fun j u hu => (hk j).trans (h j u hu)
theorem CellsA.new (w : World) (a : Acn) : CellsA (w.alloc (.cells (act13 a) 61)) w.heap.size 0 a := fun j u hu => by
  rw [Nat.zero_add]
  have := cell_of_row (w.alloc (.cells (act13 a) 61)) w.heap.size j (act13 a) 61 (0, 0) (heap_alloc_new w _)
  rw [this]
  simpa using hu
def mainB : ByteArray := ⟨#[109, 97, 105, 110]⟩
/-- what holds between two calls -/
structure IInv (w wx : World) (o : Org) (b7 b9 : Nat) (A : Option Addr) (n c : Nat) (l : List Ent) : Prop where
  o0 : wx.cell? ⟨w.heap.size, 0, none⟩ = some (.string o.prj)
  o1 : wx.cell? ⟨w.heap.size, 1, none⟩ = some (.string o.ref)
  o2 : wx.cell? ⟨w.heap.size, 2, none⟩ = some (.bool o.fork)
  lo : w.heap.size < b7
  x : CAx w wx b7 100 A n c l
  nb : b7 < b9
  lb : b9 < wx.heap.size
  s9 : wx.cell? ⟨b9, 0, none⟩ = some (.string mainB)
theorem IInv.at {w wx wy : World} {o : Org} {b7 b9 : Nat} {A : Option Addr} {n c : Nat} {l : List Ent} (h : IInv w wx o b7 b9 A n c l) (hb : Below wx.heap.size wx wy) : IInv w wy o b7 b9 A n c l := by
  obtain ⟨h0, h1, h2, h3, h4, h5, h6, h7⟩ := h
  have hz : w.heap.size < wx.heap.size := by have := h4.lo; omega
  exact ⟨(hb.cell (p := ⟨w.heap.size, 0, none⟩) hz).trans h0, (hb.cell (p := ⟨w.heap.size, 1, none⟩) hz).trans h1, (hb.cell (p := ⟨w.heap.size, 2, none⟩) hz).trans h2, h3, h4.at hb, h5, Nat.lt_of_lt_of_le h6 hb.size, (hb.cell (p := ⟨b9, 0, none⟩) h6).trans h7⟩
theorem IInv.put {w wx : World} {o : Org} {b7 b9 : Nat} {A A' : Option Addr} {n c n' c' : Nat} {l l' : List Ent} (h : IInv w wx o b7 b9 A n c l) (hn : n' = l'.length) (hs : Seq wx wx.heap.size 8 A' n' (entsC l')) :
    IInv w ((wx.setCell ⟨b7, 0, none⟩ (.int .i64 100)).setCell ⟨b7, 1, none⟩ (.slice A' n' c')) o b7 b9 A' n' c' l' := by
  obtain ⟨h0, h1, h2, h3, h4, h5, h6, h7⟩ := h
  have far : ∀ b j, b ≠ b7 → ((wx.setCell ⟨b7, 0, none⟩ (.int .i64 100)).setCell ⟨b7, 1, none⟩ (.slice A' n' c')).cell? ⟨b, j, none⟩ = wx.cell? ⟨b, j, none⟩ := fun b j hb => by
    rw [World.cell?_setCell_far _ _ _ _ (by show b7 ≠ b; omega), World.cell?_setCell_far _ _ _ _ (by show b7 ≠ b; omega)]
  have hz : ((wx.setCell ⟨b7, 0, none⟩ (.int .i64 100)).setCell ⟨b7, 1, none⟩ (.slice A' n' c')).heap.size = wx.heap.size := by simp [World.setCell]
  exact ⟨(far _ 0 (by omega)).trans h0, (far _ 1 (by omega)).trans h1, (far _ 2 (by omega)).trans h2, h3, h4.put 100 hn hs, h5, by rw [hz]; exact h6, (far _ 0 (by omega)).trans h7⟩
theorem IInv.safe {w wx : World} {o : Org} {b7 b9 : Nat} {A : Option Addr} {n c : Nat} {l : List Ent} (h : IInv w wx o b7 b9 A n c l) : Seq wx wx.heap.size 1 (some ⟨b9, 0, none⟩) 1 ([mainB].map Value.string) := ⟨rfl, fun _ => ⟨b9, 0, rfl, h.lb, fun j u hu => by
  match j, hu with
  | 0, hu => cases hu; exact h.s9⟩⟩
/-- the level of an origin -/
def lvO (o : Org) : Int := Lv.lvlS o (Gl.toL [mainB])
theorem lvO_range (o : Org) : 0 ≤ lvO o ∧ lvO o ≤ 2 := Lv.lvlS_range o _
theorem level_any2 {w wx : World} {o : Org} {b7 b9 : Nat} {A : Option Addr} {n c : Nat} {l : List Ent} (h : IInv w wx o b7 b9 A n c l) (o2 : Org) (h1 : o2.prj.size ≤ 600) (h2 : o2.ref.size ≤ 600) :
    Calls Tryd.prog 31 #[.agg (ocells o2), .slice (some ⟨b9, 0, none⟩) 1 1] wx fun e w' => e = .returned (.int .i64 (lvO o2)) ∧ Below wx.heap.size wx w' :=
  Lv.refLev_any o2 [mainB] (some ⟨b9, 0, none⟩) 1 wx h.safe (by decide) (fun p hp => by rw [List.mem_singleton.1 hp]; decide) (by omega) (by omega)
theorem I64_max {a b : Int} (ha : I64 a) (hb : I64 b) : I64 (max a b) := by
  unfold I64 at *
  omega
theorem fit_touch {z : Int} {l : List Ent} {s : Scp} {k : ByteArray} {now : Int} (h : ∀ y ∈ l, y.fit) (hn : I64 now) : ∀ y ∈ touchL z l s k now, y.fit := by
  intro y hy
  unfold touchL at hy
  split at hy
  · unfold setU at hy
    split at hy
    · rename_i v hv
      rcases List.mem_or_eq_of_mem_set hy with hy | rfl
      · exact h y hy
      · have hv2 := h v (List.mem_of_getElem? hv)
        exact ⟨hv2.p, hv2.r, hv2.k, hv2.t, hv2.z, hv2.c, I64_max hv2.u hn⟩
    · exact h y hy
  · exact h y hy
theorem fit_save {z : Int} {l : List Ent} {x : Ent} {now : Int} (h : ∀ y ∈ l, y.fit) (hx : x.fit) (hn : I64 now) : ∀ y ∈ saveL z l x now, y.fit := by
  intro y hy
  unfold saveL at hy
  split at hy
  · rcases List.mem_append.1 hy with hy | hy
    · exact h y ((roomF_sub _ _ _ _).mem hy)
    · rw [List.mem_singleton.1 hy]
      exact ⟨hx.p, hx.r, hx.k, hx.t, hx.z, hn, hn⟩
  · exact h y hy
theorem len_save (z : Int) (l : List Ent) (x : Ent) (now : Int) : (saveL z l x now).length ≤ l.length + 1 := by
  unfold saveL
  split
  · rw [List.length_append]
    have := (roomF_sub (l.length + 1) z x.size l).length_le
    unfold roomS
    simp
    exact this
  · omega
theorem len_touch (z : Int) (l : List Ent) (s : Scp) (k : ByteArray) (now : Int) : (touchL z l s k now).length = l.length := by
  unfold touchL
  split
  · unfold setU
    split <;> simp
  · rfl
/-- what is known of a cache and of the time -/
structure PInv (i : Nat) (l : List Ent) (now : Int) : Prop where
  v : VInv 100 l
  len : l.length ≤ i
  fit : ∀ y ∈ l, y.fit
  n0 : 0 ≤ now
  n1 : now ≤ 1000000 * i
/-- what is known of the next cache -/
structure NextOk (i : Nat) (l : List Ent) (x : Ent) (touch : Bool) (next : List Ent) (er : Int) : Prop where
  v : VInv 100 next
  len : next.length ≤ i + 1
  fit : ∀ y ∈ next, y.fit
  step : StepOk l x touch next
  same : er ≠ 0 → next = l
def scX (a : Acn) : Ent := { a.e with sc := scpS a.o (lvO a.o) }
theorem fit_scX {a : Acn} (h : shrtE ⟨a.o.prj, 0, a.o.ref⟩ a.e.key = true) (hn : a.e.nums) : (scX a).fit := by
  obtain ⟨h1, h2, h3⟩ := shrt_of h
  have := lvO_range a.o
  refine ⟨?_, ?_, ?_, ?_, hn.z, hn.c, hn.u⟩
  · show a.o.prj.size ≤ 1000000; have : a.o.prj.size ≤ 600 := h1; omega
  · show a.o.ref.size ≤ 1000000; have : a.o.ref.size ≤ 600 := h2; omega
  · show a.e.key.size ≤ 1000000; omega
  · show I64 (lvO a.o); unfold I64; omega
theorem next_touch {i : Nat} {l : List Ent} {now : Int} (h : PInv i l now) (now2 : Int) (hn : I64 now2) (x : Ent) (t : Bool) : NextOk i l x t (touchL 100 l x.sc x.key now2) 0 :=
  ⟨valid_touch h.v _ _ _, by rw [len_touch]; have := h.len; omega, fit_touch h.fit hn, step_touch h.v.good x _ _ _ t, fun h => absurd rfl h⟩
theorem next_save {i : Nat} {l : List Ent} {now : Int} (h : PInv i l now) (now2 : Int) (hn : I64 now2) {x : Ent} (hx : x.fit) : NextOk i l x false (saveL 100 l x now2) (saveE 100 l x now2) :=
  ⟨valid_save h.v x now2, by have := len_save 100 l x now2; have := h.len; omega, fit_save h.fit hx hn, step_save h.v.good x now2, fun he => by unfold saveL; rw [if_neg he]⟩
theorem PInv.next {i : Nat} {l next : List Ent} {now now2 er : Int} {x : Ent} {t : Bool} (h : PInv i l now) (hn : NextOk i l x t next er) (h1 : now ≤ now2) (h2 : now2 ≤ now + 1000000) : PInv (i + 1) next now2 :=
  ⟨hn.v, hn.len, hn.fit, by have := h.n0; omega, by have := h.n1; omega⟩
theorem PInv.start : PInv 0 [] 0 := ⟨valid_iff.1 (by kernel_rfl), Nat.le_refl _, fun y h => by (cases h), Int.le_refl _, by simp⟩
theorem set3_cells {w : World} {b : Nat} {y : Ent} (h : CellsE w b 0 y) (s : Scp) : CellsE (((w.setCell ⟨b, 0, none⟩ (.string s.prj)).setCell ⟨b, 1, none⟩ (.int .i64 s.trust)).setCell ⟨b, 2, none⟩ (.string s.ref)) b 0 { y with sc := s } := by
  have k : ∀ (i : Nat) (v0 : Value), w.cell? ⟨b, i, none⟩ = some v0 → (((w.setCell ⟨b, 0, none⟩ (.string s.prj)).setCell ⟨b, 1, none⟩ (.int .i64 s.trust)).setCell ⟨b, 2, none⟩ (.string s.ref)).cell? ⟨b, i, none⟩ = some (if i = 2 then .string s.ref else if i = 1 then .int .i64 s.trust else if i = 0 then .string s.prj else v0) := fun i v0 h0 => cell_put (u := v0) (cell_put (u := v0) (cell_put (u := v0) h0))
  exact ⟨k 0 _ h.c0, k (0 + 1) _ h.c1, k (0 + 2) _ h.c2, k (0 + 3) _ h.c3, k (0 + 4) _ h.c4, k (0 + 5) _ h.c5, k (0 + 6) _ h.c6, k (0 + 7) _ h.c7⟩
theorem below3 {B : Nat} {a w : World} (h : Below B a w) {b : Nat} (hb : B ≤ b) (u v x : Value) : Below B a (((w.setCell ⟨b, 0, none⟩ u).setCell ⟨b, 1, none⟩ v).setCell ⟨b, 2, none⟩ x) :=
  ((h.setCell (p := ⟨b, 0, none⟩) hb _).setCell (p := ⟨b, 1, none⟩) hb _).setCell (p := ⟨b, 2, none⟩) hb _
theorem far3 (w : World) {b d : Nat} (hb : d ≠ b) (j : Nat) (u v x : Value) : (((w.setCell ⟨b, 0, none⟩ u).setCell ⟨b, 1, none⟩ v).setCell ⟨b, 2, none⟩ x).cell? ⟨d, j, none⟩ = w.cell? ⟨d, j, none⟩ := by
  rw [World.cell?_setCell_far _ _ _ _ (by show b ≠ d; omega), World.cell?_setCell_far _ _ _ _ (by show b ≠ d; omega), World.cell?_setCell_far _ _ _ _ (by show b ≠ d; omega)]
theorem size3 (w : World) (b : Nat) (u v x : Value) : (((w.setCell ⟨b, 0, none⟩ u).setCell ⟨b, 1, none⟩ v).setCell ⟨b, 2, none⟩ x).heap.size = w.heap.size := by simp [World.setCell]
structure JInv (w wr wx : World) (a : Acn) (b14 b15 : Nat) (A1 : Option Addr) (n1 c1 : Nat) (next : List Ent) : Prop where
  bx : Below wr.heap.size wr wx
  z13 : wr.heap.size < b14
  z14 : b14 < b15
  d : CellsA wx wr.heap.size 0 a
  e : CellsE wx b14 0 (scX a)
  nx : CAx w wx b15 100 A1 n1 c1 next
theorem JInv.at {w wr wx wy : World} {a : Acn} {b14 b15 : Nat} {A1 : Option Addr} {n1 c1 : Nat} {next : List Ent} (h : JInv w wr wx a b14 b15 A1 n1 c1 next) (hb : Below wx.heap.size wx wy) : JInv w wr wy a b14 b15 A1 n1 c1 next := by
  obtain ⟨h1, h2, h3, h4, h5, h6⟩ := h
  have := h6.lo
  exact ⟨h1.trans (hb.mono h1.size), h2, h3, h4.map fun j => hb.cell (p := ⟨wr.heap.size, 0 + j, none⟩) (by show wr.heap.size < _; omega), h5.map fun j => hb.cell (p := ⟨b14, 0 + j, none⟩) (by show b14 < _; omega), h6.at hb⟩
theorem JInv.put {w wr wx : World} {a : Acn} {b14 b15 : Nat} {A1 A2 : Option Addr} {n1 c1 n2 c2 : Nat} {next l2 : List Ent} (h : JInv w wr wx a b14 b15 A1 n1 c1 next) (hn : n2 = l2.length) (hs : Seq wx wx.heap.size 8 A2 n2 (entsC l2)) :
    JInv w wr ((wx.setCell ⟨b15, 0, none⟩ (.int .i64 100)).setCell ⟨b15, 1, none⟩ (.slice A2 n2 c2)) a b14 b15 A2 n2 c2 l2 := by
  obtain ⟨h1, h2, h3, h4, h5, h6⟩ := h
  have far : ∀ b j, b ≠ b15 → ((wx.setCell ⟨b15, 0, none⟩ (.int .i64 100)).setCell ⟨b15, 1, none⟩ (.slice A2 n2 c2)).cell? ⟨b, j, none⟩ = wx.cell? ⟨b, j, none⟩ := fun b j hb => by
    rw [World.cell?_setCell_far _ _ _ _ (by show b15 ≠ b; omega), World.cell?_setCell_far _ _ _ _ (by show b15 ≠ b; omega)]
  exact ⟨(h1.setCell (p := ⟨b15, 0, none⟩) (by show wr.heap.size ≤ b15; omega) _).setCell (p := ⟨b15, 1, none⟩) (by show wr.heap.size ≤ b15; omega) _, h2, h3, h4.map fun j => far _ _ (by omega), h5.map fun j => far _ _ (by omega), h6.put 100 hn hs⟩
theorem errV_ok {z : Int} {l : List Ent} (h : VInv z l) : errV z l = 0 := by
  unfold errV
  rw [valid_iff.2 h]
  rfl
end Go.Proofs.YtpdlapdnjmoaoaaDoor
