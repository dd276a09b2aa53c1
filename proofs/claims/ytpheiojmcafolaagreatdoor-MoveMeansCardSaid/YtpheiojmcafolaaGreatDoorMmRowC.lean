/-
  CLOSED FACTS of the row of MoveMeans.
-/
import Derived.Test.YtpheiojmcafolaaGreatDoorRows
import Derived.Test.YtpheiojmcafolaaGreatDoorChecked
import Derived.JoinedOf
namespace Go.Proofs.YtpheiojmcafolaaGreatDoor
set_option maxRecDepth 100000
open Go
theorem mmeans_c1 : (Rows.moveMeansRow.inPlace == Tryz.pinned.checked.prog.inPlace 5) = true := by kernel_rfl
theorem mmeans_c2 : (Rows.moveMeansRow.unfollowed == Tryz.pinned.checked.prog.unfollowed 5) = true := by kernel_rfl
theorem mmeans_c3 : (Rows.moveMeansRow.recurses == Tryz.pinned.checked.prog.recurses 5) = true := by kernel_rfl
theorem mmeans_c4 : (Rows.moveMeansRow.named == Tryz.pinned.checked.prog.varsNamed 5) = true := by kernel_rfl
theorem mmeans_closed : joinedFacts Tryz.pinned.checked.prog 5 Tryz.f5 Rows.moveMeansSpec Rows.moveMeansRow = true := by
  unfold joinedFacts
  rw [mmeans_c1, mmeans_c2, mmeans_c3, mmeans_c4]
  kernel_rfl
end Go.Proofs.YtpheiojmcafolaaGreatDoor
