/-
  CLOSED FACTS of the row of PhraseBrackets.
-/
import Derived.Test.YtbggbcnfkcadjaaGreatDoorRows
import Derived.Test.YtbggbcnfkcadjaaGreatDoorChecked
import Derived.JoinedOf
namespace Go.Proofs.YtbggbcnfkcadjaaGreatDoor
set_option maxRecDepth 100000
open Go
theorem brackets_c1 : (Rows.phraseBracketsRow.inPlace == Tryz.pinned.checked.prog.inPlace 4) = true := by kernel_rfl
theorem brackets_c2 : (Rows.phraseBracketsRow.unfollowed == Tryz.pinned.checked.prog.unfollowed 4) = true := by kernel_rfl
theorem brackets_c3 : (Rows.phraseBracketsRow.recurses == Tryz.pinned.checked.prog.recurses 4) = true := by kernel_rfl
theorem brackets_c4 : (Rows.phraseBracketsRow.named == Tryz.pinned.checked.prog.varsNamed 4) = true := by kernel_rfl
theorem brackets_closed : joinedFacts Tryz.pinned.checked.prog 4 Tryz.f4 Rows.phraseBracketsSpec Rows.phraseBracketsRow = true := by
  unfold joinedFacts
  rw [brackets_c1, brackets_c2, brackets_c3, brackets_c4]
  kernel_rfl
end Go.Proofs.YtbggbcnfkcadjaaGreatDoor
