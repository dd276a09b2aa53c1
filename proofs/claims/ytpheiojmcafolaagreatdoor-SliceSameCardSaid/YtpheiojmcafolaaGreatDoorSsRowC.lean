/-
  CLOSED FACTS of the row of SliceSame.
-/
import Derived.Test.YtpheiojmcafolaaGreatDoorRows
import Derived.Test.YtpheiojmcafolaaGreatDoorChecked
import Derived.JoinedOf
namespace Go.Proofs.YtpheiojmcafolaaGreatDoor
set_option maxRecDepth 100000
open Go
theorem ssame_c1 : (Rows.sliceSameRow.inPlace == Tryz.pinned.checked.prog.inPlace 12) = true := by kernel_rfl
theorem ssame_c2 : (Rows.sliceSameRow.unfollowed == Tryz.pinned.checked.prog.unfollowed 12) = true := by kernel_rfl
theorem ssame_c3 : (Rows.sliceSameRow.recurses == Tryz.pinned.checked.prog.recurses 12) = true := by kernel_rfl
theorem ssame_c4 : (Rows.sliceSameRow.named == Tryz.pinned.checked.prog.varsNamed 12) = true := by kernel_rfl
theorem ssame_closed : joinedFacts Tryz.pinned.checked.prog 12 Tryz.f12 Rows.sliceSameSpec Rows.sliceSameRow = true := by
  unfold joinedFacts
  rw [ssame_c1, ssame_c2, ssame_c3, ssame_c4]
  kernel_rfl
end Go.Proofs.YtpheiojmcafolaaGreatDoor
