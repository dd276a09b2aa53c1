/-
  CLOSED FACTS of the row of PhrasePrints.
-/
import Derived.Test.YtbggbcnfkcadjaaGreatDoorRows
import Derived.Test.YtbggbcnfkcadjaaGreatDoorChecked
import Derived.JoinedOf
namespace Go.Proofs.YtbggbcnfkcadjaaGreatDoor
set_option maxRecDepth 100000
open Go
theorem prints_c1 : (Rows.phrasePrintsRow.inPlace == Tryz.pinned.checked.prog.inPlace 3) = true := by kernel_rfl
theorem prints_c2 : (Rows.phrasePrintsRow.unfollowed == Tryz.pinned.checked.prog.unfollowed 3) = true := by kernel_rfl
theorem prints_c3 : (Rows.phrasePrintsRow.recurses == Tryz.pinned.checked.prog.recurses 3) = true := by kernel_rfl
theorem prints_c4 : (Rows.phrasePrintsRow.named == Tryz.pinned.checked.prog.varsNamed 3) = true := by kernel_rfl
theorem prints_closed : joinedFacts Tryz.pinned.checked.prog 3 Tryz.f3 Rows.phrasePrintsSpec Rows.phrasePrintsRow = true := by
  unfold joinedFacts
  rw [prints_c1, prints_c2, prints_c3, prints_c4]
  kernel_rfl
end Go.Proofs.YtbggbcnfkcadjaaGreatDoor
