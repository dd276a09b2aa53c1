/-
  CLOSED FACTS of the row of SliceAgain.
-/
import Derived.Test.YtpheiojmcafolaaGreatDoorRows
import Derived.Test.YtpheiojmcafolaaGreatDoorChecked
import Derived.JoinedOf
namespace Go.Proofs.YtpheiojmcafolaaGreatDoor
set_option maxRecDepth 100000
open Go
theorem sagain_c1 : (Rows.sliceAgainRow.inPlace == Tryz.pinned.checked.prog.inPlace 13) = true := by kernel_rfl
theorem sagain_c2 : (Rows.sliceAgainRow.unfollowed == Tryz.pinned.checked.prog.unfollowed 13) = true := by kernel_rfl
theorem sagain_c3 : (Rows.sliceAgainRow.recurses == Tryz.pinned.checked.prog.recurses 13) = true := by kernel_rfl
theorem sagain_c4 : (Rows.sliceAgainRow.named == Tryz.pinned.checked.prog.varsNamed 13) = true := by kernel_rfl
theorem sagain_closed : joinedFacts Tryz.pinned.checked.prog 13 Tryz.f13 Rows.sliceAgainSpec Rows.sliceAgainRow = true := by
  unfold joinedFacts
  rw [sagain_c1, sagain_c2, sagain_c3, sagain_c4]
  kernel_rfl
end Go.Proofs.YtpheiojmcafolaaGreatDoor
