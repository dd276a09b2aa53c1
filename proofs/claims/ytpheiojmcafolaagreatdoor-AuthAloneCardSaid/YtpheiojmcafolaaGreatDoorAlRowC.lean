/-
  CLOSED FACTS of the row of AuthAlone.
-/
import Derived.Test.YtpheiojmcafolaaGreatDoorRows
import Derived.Test.YtpheiojmcafolaaGreatDoorChecked
import Derived.JoinedOf
namespace Go.Proofs.YtpheiojmcafolaaGreatDoor
set_option maxRecDepth 100000
open Go
theorem aalone_c1 : (Rows.authAloneRow.inPlace == Tryz.pinned.checked.prog.inPlace 9) = true := by kernel_rfl
theorem aalone_c2 : (Rows.authAloneRow.unfollowed == Tryz.pinned.checked.prog.unfollowed 9) = true := by kernel_rfl
theorem aalone_c3 : (Rows.authAloneRow.recurses == Tryz.pinned.checked.prog.recurses 9) = true := by kernel_rfl
theorem aalone_c4 : (Rows.authAloneRow.named == Tryz.pinned.checked.prog.varsNamed 9) = true := by kernel_rfl
theorem aalone_closed : joinedFacts Tryz.pinned.checked.prog 9 Tryz.f9 Rows.authAloneSpec Rows.authAloneRow = true := by
  unfold joinedFacts
  rw [aalone_c1, aalone_c2, aalone_c3, aalone_c4]
  kernel_rfl
end Go.Proofs.YtpheiojmcafolaaGreatDoor
