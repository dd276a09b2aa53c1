/-
  CLOSED FACTS of the row of MoveAsks.
-/
import Derived.Test.YtpheiojmcafolaaGreatDoorRows
import Derived.Test.YtpheiojmcafolaaGreatDoorChecked
import Derived.JoinedOf
namespace Go.Proofs.YtpheiojmcafolaaGreatDoor
set_option maxRecDepth 100000
open Go
theorem masks_c1 : (Rows.moveAsksRow.inPlace == Tryz.pinned.checked.prog.inPlace 14) = true := by kernel_rfl
theorem masks_c2 : (Rows.moveAsksRow.unfollowed == Tryz.pinned.checked.prog.unfollowed 14) = true := by kernel_rfl
theorem masks_c3 : (Rows.moveAsksRow.recurses == Tryz.pinned.checked.prog.recurses 14) = true := by kernel_rfl
theorem masks_c4 : (Rows.moveAsksRow.named == Tryz.pinned.checked.prog.varsNamed 14) = true := by kernel_rfl
theorem masks_closed : joinedFacts Tryz.pinned.checked.prog 14 Tryz.f14 Rows.moveAsksSpec Rows.moveAsksRow = true := by
  unfold joinedFacts
  rw [masks_c1, masks_c2, masks_c3, masks_c4]
  kernel_rfl
end Go.Proofs.YtpheiojmcafolaaGreatDoor
