/-
  CLOSED FACTS of the row of PolMeans.
-/
import Derived.Test.YtpheiojmcafolaaGreatDoorRows
import Derived.Test.YtpheiojmcafolaaGreatDoorChecked
import Derived.JoinedOf
namespace Go.Proofs.YtpheiojmcafolaaGreatDoor
set_option maxRecDepth 100000
open Go
theorem pmeans_c1 : (Rows.polMeansRow.inPlace == Tryz.pinned.checked.prog.inPlace 4) = true := by kernel_rfl
theorem pmeans_c2 : (Rows.polMeansRow.unfollowed == Tryz.pinned.checked.prog.unfollowed 4) = true := by kernel_rfl
theorem pmeans_c3 : (Rows.polMeansRow.recurses == Tryz.pinned.checked.prog.recurses 4) = true := by kernel_rfl
theorem pmeans_c4 : (Rows.polMeansRow.named == Tryz.pinned.checked.prog.varsNamed 4) = true := by kernel_rfl
theorem pmeans_closed : joinedFacts Tryz.pinned.checked.prog 4 Tryz.f4 Rows.polMeansSpec Rows.polMeansRow = true := by
  unfold joinedFacts
  rw [pmeans_c1, pmeans_c2, pmeans_c3, pmeans_c4]
  kernel_rfl
end Go.Proofs.YtpheiojmcafolaaGreatDoor
