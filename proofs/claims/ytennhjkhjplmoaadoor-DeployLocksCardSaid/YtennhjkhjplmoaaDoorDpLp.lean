/- Deploy: what lives asks for, as plain lists. No program in sight. -/
import Derived.Test.YtennhjkhjplmoaaDoorDpP
namespace Go.Proofs.YtennhjkhjplmoaaDoor
open Go.RowKit
theorem eqB_lit (a b : ByteArray) : eqB a b = (a.data.toList == b.data.toList) := by
  unfold eqB
  rw [ByteArray.toList_eq, ByteArray.toList_eq]
def pS : ByteArray := ⟨#[112, 114, 111, 100]⟩
def jA : Ref := ⟨⟨#[114]⟩, ⟨#[97]⟩⟩
def jB : Ref := ⟨⟨#[114]⟩, ⟨#[98]⟩⟩
def dA : Dep := ⟨jA, 5, 100, 1⟩
def lv1 : List Env := [⟨pS, zR, [jA], []⟩]
def lv2 : List Env := [⟨pS, zR, [jA, jB], []⟩]
def lv3 : List Env := [⟨pS, jA, [jB], []⟩]
def lv4 : List Env := [⟨pS, zR, [jB], [dA]⟩]
def lv5 : List Env := [⟨pS, zR, [], [dA]⟩]
theorem lv_pp : eqB pS pS = true := eqB_iff.2 rfl
theorem lv_aa : eqR jA jA = true := eqR_self _
theorem lv_bb : eqR jB jB = true := eqR_self _
theorem lv_ab : eqR jA jB = false := by unfold eqR; rw [eqB_lit, eqB_lit]; decide
theorem lv_ba : eqR jB jA = false := by unfold eqR; rw [eqB_lit, eqB_lit]; decide
theorem lv_az : eqR jA zR = false := by unfold eqR; rw [eqB_lit, eqB_lit]; decide
theorem lv_za : eqR zR jA = false := by unfold eqR; rw [eqB_lit, eqB_lit]; decide
theorem lv_zb : eqR zR jB = false := by unfold eqR; rw [eqB_lit, eqB_lit]; decide
theorem lv_zz : eqR zR zR = true := eqR_self _
theorem lv_pa : properR jA = true := by unfold properR; rw [eqB_lit, eqB_lit]; decide
theorem lv_pb : properR jB = true := by unfold properR; rw [eqB_lit, eqB_lit]; decide
theorem lv_nm : nameS pS.data.toList = true := by decide
theorem lives1 : reqL [] pS jA = (lv1, 0) := by
  unfold reqL
  rw [lv_nm, lv_pa]
  rfl
theorem lives2 : reqL lv1 pS jB = (lv2, 0) := by
  unfold reqL lv1
  rw [lv_nm, lv_pb]
  simp [busyE, hasR, posA, nameE, lv_pp, lv_zb, lv_ab, askE, lv2]
theorem lives3 : mayL lv2 pS jA = true := by
  simp [mayL, lv2, posA, nameE, lv_pp, lv_zz, headR, lv_aa]
theorem lives3b : mayL lv2 pS jB = false := by
  simp [mayL, lv2, posA, nameE, lv_pp, lv_zz, headR, lv_ab]
theorem lives4 : lockL lv2 pS jA = (lv3, 0) := by
  simp [lockL, lv2, posA, nameE, lv_pp, lv_zz, headR, lv_aa, hasR, lockE, lv3]
theorem lives5 : lockL lv3 pS jB = (lv3, 19) := by
  simp [lockL, lv3, posA, nameE, lv_pp, lv_az, lv_bb, hasR]
theorem lives6 : finL lv3 dA = (lv4, 0) := by
  simp [finL, dA, lv3, posA, holdE, lv_aa, lv_pa, finE, capH, lv4]
theorem lives7 : curL lv4 pS = (dA, true) := by
  simp [curL, histOf, lv4, posA, nameE, lv_pp, curI, lastI, dA, depAt]
theorem lives8 : abL lv4 jB = lv5 := by
  simp [abL, lv4, leaveE, lv_zb, lv_bb, lv5]
end Go.Proofs.YtennhjkhjplmoaaDoor
