/-
  PLAIN: the laws' own examples.
-/
import Derived.Test.YtcghjnpllobdmaaVarsP
import Derived.Test.YtcghjnpllobdmaaLPlain1
namespace Go.Proofs.Ytcghjnpllobdmaa
open Go.RowKit

theorem fact_values : treeErr [⟨9, 0, ⟨#[]⟩, ⟨#[]⟩⟩, ⟨8, 0, ⟨#[97]⟩, ⟨#[]⟩⟩] = 0 ∧ varsR [⟨9, 0, ⟨#[]⟩, ⟨#[]⟩⟩, ⟨8, 0, ⟨#[97]⟩, ⟨#[]⟩⟩] = [[97]] := by
  have h : treeErr [⟨9, 0, ⟨#[]⟩, ⟨#[]⟩⟩, ⟨8, 0, ⟨#[97]⟩, ⟨#[]⟩⟩] = 0 := by
    simp [treeErr, bGo, shapedT, ndParts, variableB, nameErr, nameB, letterI, digitI, reserved, ByteArray.toList_mk]
  refine ⟨h, ?_⟩
  unfold varsR
  rw [if_pos h]
  unfold varsL
  rw [show varNames [⟨9, 0, ⟨#[]⟩, ⟨#[]⟩⟩, ⟨8, 0, ⟨#[97]⟩, ⟨#[]⟩⟩] = [[97]] from by simp [varNames, ByteArray.toList_mk]]
  unfold sorted
  rw [List.mergeSort_singleton]
  rfl
theorem fact_gone : putV [⟨8, 0, ⟨#[97]⟩, ⟨#[]⟩⟩] ⟨#[97]⟩ [⟨2, 5, ⟨#[]⟩, ⟨#[]⟩⟩] = ([⟨2, 5, ⟨#[]⟩, ⟨#[]⟩⟩], 0) := by
  simp [putV, putL, isVar, treeErr, bGo, shapedT, ndParts, variableB, nameErr, nameB, letterI, digitI, reserved, ByteArray.toList_mk, valErr, vGo, shapedV]
theorem fact_twice : putV [⟨9, 0, ⟨#[]⟩, ⟨#[]⟩⟩, ⟨8, 0, ⟨#[97]⟩, ⟨#[]⟩⟩] ⟨#[97]⟩ [⟨8, 0, ⟨#[98]⟩, ⟨#[]⟩⟩] = ([⟨9, 0, ⟨#[]⟩, ⟨#[]⟩⟩, ⟨8, 0, ⟨#[98]⟩, ⟨#[]⟩⟩], 0) := by
  simp [putV, putL, isVar, treeErr, bGo, shapedT, ndParts, variableB, nameErr, nameB, letterI, digitI, reserved, ByteArray.toList_mk]
theorem putV_none {e v : List Nd} (s : ByteArray) (he : treeErr e = 0) (hn : varNames e = []) : putV e s v = if treeErr v ≠ 0 then ([], treeErr v) else (e, 0) := by
  unfold putV
  rw [if_neg (by simp [he]), putL_absent v (by rw [hn]; intro h; cases h)]
  have := (tree_len he).1
  rw [if_neg (show ¬ 200 < e.length by omega)]
theorem varsR_none {e : List Nd} (he : treeErr e = 0) (hn : varNames e = []) : varsR e = [] := by
  unfold varsR varsL sorted
  rw [if_pos he, hn, List.mergeSort_nil]; rfl
end Go.Proofs.Ytcghjnpllobdmaa
