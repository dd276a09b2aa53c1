/-
  CLOSED FACTS of the row of TruthMeans.
-/
import Derived.Test.YtpheiojmcafolaaGreatDoorRows
import Derived.Test.YtpheiojmcafolaaGreatDoorChecked
import Derived.JoinedOf
namespace Go.Proofs.YtpheiojmcafolaaGreatDoor
set_option maxRecDepth 100000
open Go
theorem tmeans_c1 : (Rows.truthMeansRow.inPlace == Tryz.pinned.checked.prog.inPlace 3) = true := by kernel_rfl
theorem tmeans_c2 : (Rows.truthMeansRow.unfollowed == Tryz.pinned.checked.prog.unfollowed 3) = true := by kernel_rfl
theorem tmeans_c3 : (Rows.truthMeansRow.recurses == Tryz.pinned.checked.prog.recurses 3) = true := by kernel_rfl
theorem tmeans_c4 : (Rows.truthMeansRow.named == Tryz.pinned.checked.prog.varsNamed 3) = true := by kernel_rfl
theorem tmeans_closed : joinedFacts Tryz.pinned.checked.prog 3 Tryz.f3 Rows.truthMeansSpec Rows.truthMeansRow = true := by
  unfold joinedFacts
  rw [tmeans_c1, tmeans_c2, tmeans_c3, tmeans_c4]
  kernel_rfl
end Go.Proofs.YtpheiojmcafolaaGreatDoor
