/-
  CLOSED FACTS of the row of PhraseBack.
-/
import Derived.Test.YtbggbcnfkcadjaaGreatDoorRows
import Derived.Test.YtbggbcnfkcadjaaGreatDoorChecked
import Derived.JoinedOf
namespace Go.Proofs.YtbggbcnfkcadjaaGreatDoor
set_option maxRecDepth 100000
open Go
theorem back_c1 : (Rows.phraseBackRow.inPlace == Tryz.pinned.checked.prog.inPlace 8) = true := by kernel_rfl
theorem back_c2 : (Rows.phraseBackRow.unfollowed == Tryz.pinned.checked.prog.unfollowed 8) = true := by kernel_rfl
theorem back_c3 : (Rows.phraseBackRow.recurses == Tryz.pinned.checked.prog.recurses 8) = true := by kernel_rfl
theorem back_c4 : (Rows.phraseBackRow.named == Tryz.pinned.checked.prog.varsNamed 8) = true := by kernel_rfl
theorem back_closed : joinedFacts Tryz.pinned.checked.prog 8 Tryz.f8 Rows.phraseBackSpec Rows.phraseBackRow = true := by
  unfold joinedFacts
  rw [back_c1, back_c2, back_c3, back_c4]
  kernel_rfl
end Go.Proofs.YtbggbcnfkcadjaaGreatDoor
