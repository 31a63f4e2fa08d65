/- What the other texts of names lean on, where the program has no Name. -/
import Derived.Test.YtgcpffbaejodiaaDoorIdP
import Derived.Test.YtgcpffbaejodiaaDoorMem
import Derived.Test.YtgcpffbaejodiaaDoorChecked
import Derived.Lib.ConvBytes
namespace Go.Proofs.YtgcpffbaejodiaaDoor
open Go.RowKit
set_option maxRecDepth 100000 in
set_option maxRecDepth 100000 in
theorem digit_any (c : UInt8) (w : World) : Calls Tryd.prog 81 #[.int .u8 (c.toNat : Int)] w fun e w' => e = .returned (.bool (decide (48 ≤ c.toNat) && decide (c.toNat ≤ 57))) ∧ w' = w := by
  go_enter Tryd.func81, Tryd.ntmps81
  repeat' ((fail_if_success at_builtin); (first | go_skip | go_guarded | go_step))
  all_goals go_ret
  all_goals refine ⟨ret_b ?_, rfl⟩
  all_goals rw [Bool.eq_iff_iff]
  all_goals simp
  all_goals omega
theorem str_at {s : ByteArray} {i : Nat} (h : i < s.size) : s.data.toList[i]? = some s[i] := by
  rw [Array.getElem?_toList]
  exact Array.getElem?_eq_getElem h
theorem all_at {α : Type} {l : List α} {p : α → Bool} {i : Nat} {x : α} (h : l[i]? = some x) : (l.drop i).all p = (p x && (l.drop (i + 1)).all p) := by
  obtain ⟨hk, he⟩ := List.getElem?_eq_some_iff.1 h
  rw [List.drop_eq_getElem_cons hk, he]; rfl
theorem all_end {α : Type} {l : List α} {p : α → Bool} {i : Nat} (h : l.length ≤ i) : (l.drop i).all p = true := by
  rw [List.drop_of_length_le h]; rfl
theorem ext_list (s : ByteArray) (j i : Nat) : (s.extract j i).data.toList = (s.data.toList.drop j).take (i - j) := by
  rw [Lib.extract_data]
theorem str_info : Info Tryd.prog 9 (.string ByteArray.empty) 1 16 := by unfold Info; kernel_rfl
end Go.Proofs.YtgcpffbaejodiaaDoor
