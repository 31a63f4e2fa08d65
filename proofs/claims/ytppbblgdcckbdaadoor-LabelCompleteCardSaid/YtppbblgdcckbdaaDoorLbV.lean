/- Labels and requirements, as plain functions: lists in order. No program in sight. -/
import Derived.Test.YtppbblgdcckbdaaDoorLbQ
namespace Go.Proofs.YtppbblgdcckbdaaDoor
def ordBad (pre : List (List UInt8)) (s : List UInt8) : Bool := match pre.getLast? with
  | none => false
  | some p => decide (0 ≤ cmpN p s)
/-- the first error of strings in order: bd: it is not right; key: what may not be there twice -/
def chkF (bd : List UInt8 → Bool) (key : List UInt8 → List UInt8) : List (List UInt8) → List (List UInt8) → Int
  | _, [] => 0
  | pre, s :: r => if bd s then 5 else if pre.any (fun x => key x == key s) then 7 else if ordBad pre s then 22 else chkF bd key (pre ++ [s]) r
def labBd (s : List UInt8) : Bool := (labL s).form == 0
def labKey (s : List UInt8) : List UInt8 := (labL s).name
def reqBd (s : List UInt8) : Bool := (readL s).form == 0
def valL (l : List (List UInt8)) : Int := if 32 < l.length then 3 else chkF labBd labKey [] l
def needL (l : List (List UInt8)) : Int := if 32 < l.length then 3 else chkF reqBd id [] l
theorem chkF_ok {bd : List UInt8 → Bool} {key : List UInt8 → List UInt8} : ∀ {r pre : List (List UInt8)}, chkF bd key pre r = 0 → (pre.Pairwise fun a b => key a ≠ key b) → (pre ++ r).Pairwise fun a b => key a ≠ key b
  | [], pre, _, h => by simpa using h
  | s :: r, pre, h, hp => by
    unfold chkF at h
    split at h
    · cases h
    · split at h
      · cases h
      · rename_i hn
        split at h
        · cases h
        · have := chkF_ok h (List.pairwise_append.2 ⟨hp, List.pairwise_singleton _ _, fun a ha b hb => by
            rw [List.mem_singleton.1 hb]
            intro e
            refine hn (List.any_eq_true.2 ⟨a, ha, ?_⟩)
            simpa using e⟩)
          simpa using this
theorem val_dist {l : List (List UInt8)} (h : valL l = 0) : Dist l := by
  unfold valL at h
  split at h
  · cases h
  · have := chkF_ok h List.Pairwise.nil
    rw [List.nil_append] at this
    exact this.imp fun hab hc => hab hc.2.2
theorem chkF_cons (bd : List UInt8 → Bool) (key : List UInt8 → List UInt8) (pre : List (List UInt8)) (s : List UInt8) (r : List (List UInt8)) : chkF bd key pre (s :: r) = if bd s then 5 else if pre.any (fun x => key x == key s) then 7 else if ordBad pre s then 22 else chkF bd key (pre ++ [s]) r := rfl
theorem chkF_at {bd : List UInt8 → Bool} {key : List UInt8 → List UInt8} {l : List (List UInt8)} {i : Nat} {s : List UInt8} (h : l[i]? = some s) : chkF bd key (l.take i) (l.drop i) = if bd s then 5 else if (l.take i).any (fun x => key x == key s) then 7 else if ordBad (l.take i) s then 22 else chkF bd key (l.take (i + 1)) (l.drop (i + 1)) := by
  obtain ⟨hi, rfl⟩ := List.getElem?_eq_some_iff.1 h
  rw [List.drop_eq_getElem_cons hi, chkF_cons, List.take_succ_eq_append_getElem hi]
theorem ordBad_at {l : List (List UInt8)} {i : Nat} {p s : List UInt8} (h : l[i]? = some p) : ordBad (l.take (i + 1)) s = decide (0 ≤ cmpN p s) := by
  obtain ⟨hi, rfl⟩ := List.getElem?_eq_some_iff.1 h
  unfold ordBad
  rw [List.take_succ_eq_append_getElem hi, List.getLast?_append]
  rfl
theorem ordBad_0 (l : List (List UInt8)) (s : List UInt8) : ordBad (l.take 0) s = false := by
  rw [List.take_zero]
  rfl
theorem chkF_end {bd : List UInt8 → Bool} {key : List UInt8 → List UInt8} {l : List (List UInt8)} {i : Nat} (h : l.length ≤ i) : chkF bd key (l.take i) (l.drop i) = 0 := by
  rw [List.drop_of_length_le h]
  rfl
end Go.Proofs.YtppbblgdcckbdaaDoor
