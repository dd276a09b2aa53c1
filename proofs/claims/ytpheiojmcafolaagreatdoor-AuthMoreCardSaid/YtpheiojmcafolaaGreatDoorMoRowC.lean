/-
  CLOSED FACTS of the row of AuthMore.
-/
import Derived.Test.YtpheiojmcafolaaGreatDoorRows
import Derived.Test.YtpheiojmcafolaaGreatDoorChecked
import Derived.JoinedOf
namespace Go.Proofs.YtpheiojmcafolaaGreatDoor
set_option maxRecDepth 100000
open Go
theorem amore_c1 : (Rows.authMoreRow.inPlace == Tryz.pinned.checked.prog.inPlace 8) = true := by kernel_rfl
theorem amore_c2 : (Rows.authMoreRow.unfollowed == Tryz.pinned.checked.prog.unfollowed 8) = true := by kernel_rfl
theorem amore_c3 : (Rows.authMoreRow.recurses == Tryz.pinned.checked.prog.recurses 8) = true := by kernel_rfl
theorem amore_c4 : (Rows.authMoreRow.named == Tryz.pinned.checked.prog.varsNamed 8) = true := by kernel_rfl
theorem amore_closed : joinedFacts Tryz.pinned.checked.prog 8 Tryz.f8 Rows.authMoreSpec Rows.authMoreRow = true := by
  unfold joinedFacts
  rw [amore_c1, amore_c2, amore_c3, amore_c4]
  kernel_rfl
end Go.Proofs.YtpheiojmcafolaaGreatDoor
