/-
  CLOSED FACTS of the row of AuthOrder.
-/
import Derived.Test.YtpheiojmcafolaaGreatDoorRows
import Derived.Test.YtpheiojmcafolaaGreatDoorChecked
import Derived.JoinedOf
namespace Go.Proofs.YtpheiojmcafolaaGreatDoor
set_option maxRecDepth 100000
open Go
theorem aorder_c1 : (Rows.authOrderRow.inPlace == Tryz.pinned.checked.prog.inPlace 6) = true := by kernel_rfl
theorem aorder_c2 : (Rows.authOrderRow.unfollowed == Tryz.pinned.checked.prog.unfollowed 6) = true := by kernel_rfl
theorem aorder_c3 : (Rows.authOrderRow.recurses == Tryz.pinned.checked.prog.recurses 6) = true := by kernel_rfl
theorem aorder_c4 : (Rows.authOrderRow.named == Tryz.pinned.checked.prog.varsNamed 6) = true := by kernel_rfl
theorem aorder_closed : joinedFacts Tryz.pinned.checked.prog 6 Tryz.f6 Rows.authOrderSpec Rows.authOrderRow = true := by
  unfold joinedFacts
  rw [aorder_c1, aorder_c2, aorder_c3, aorder_c4]
  kernel_rfl
end Go.Proofs.YtpheiojmcafolaaGreatDoor
