/-
  CLOSED FACTS of the row of PhraseLeft.
-/
import Derived.Test.YtbggbcnfkcadjaaGreatDoorRows
import Derived.Test.YtbggbcnfkcadjaaGreatDoorChecked
import Derived.JoinedOf
namespace Go.Proofs.YtbggbcnfkcadjaaGreatDoor
set_option maxRecDepth 100000
open Go
theorem left_c1 : (Rows.phraseLeftRow.inPlace == Tryz.pinned.checked.prog.inPlace 5) = true := by kernel_rfl
theorem left_c2 : (Rows.phraseLeftRow.unfollowed == Tryz.pinned.checked.prog.unfollowed 5) = true := by kernel_rfl
theorem left_c3 : (Rows.phraseLeftRow.recurses == Tryz.pinned.checked.prog.recurses 5) = true := by kernel_rfl
theorem left_c4 : (Rows.phraseLeftRow.named == Tryz.pinned.checked.prog.varsNamed 5) = true := by kernel_rfl
theorem left_closed : joinedFacts Tryz.pinned.checked.prog 5 Tryz.f5 Rows.phraseLeftSpec Rows.phraseLeftRow = true := by
  unfold joinedFacts
  rw [left_c1, left_c2, left_c3, left_c4]
  kernel_rfl
end Go.Proofs.YtbggbcnfkcadjaaGreatDoor
