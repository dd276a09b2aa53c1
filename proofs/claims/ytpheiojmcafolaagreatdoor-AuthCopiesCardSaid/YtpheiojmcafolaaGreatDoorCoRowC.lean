/-
  CLOSED FACTS of the row of AuthCopies.
-/
import Derived.Test.YtpheiojmcafolaaGreatDoorRows
import Derived.Test.YtpheiojmcafolaaGreatDoorChecked
import Derived.JoinedOf
namespace Go.Proofs.YtpheiojmcafolaaGreatDoor
set_option maxRecDepth 100000
open Go
theorem acopies_c1 : (Rows.authCopiesRow.inPlace == Tryz.pinned.checked.prog.inPlace 11) = true := by kernel_rfl
theorem acopies_c2 : (Rows.authCopiesRow.unfollowed == Tryz.pinned.checked.prog.unfollowed 11) = true := by kernel_rfl
theorem acopies_c3 : (Rows.authCopiesRow.recurses == Tryz.pinned.checked.prog.recurses 11) = true := by kernel_rfl
theorem acopies_c4 : (Rows.authCopiesRow.named == Tryz.pinned.checked.prog.varsNamed 11) = true := by kernel_rfl
theorem acopies_closed : joinedFacts Tryz.pinned.checked.prog 11 Tryz.f11 Rows.authCopiesSpec Rows.authCopiesRow = true := by
  unfold joinedFacts
  rw [acopies_c1, acopies_c2, acopies_c3, acopies_c4]
  kernel_rfl
end Go.Proofs.YtpheiojmcafolaaGreatDoor
