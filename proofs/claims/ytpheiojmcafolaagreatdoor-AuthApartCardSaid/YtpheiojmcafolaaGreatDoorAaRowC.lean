/-
  CLOSED FACTS of the row of AuthApart.
-/
import Derived.Test.YtpheiojmcafolaaGreatDoorRows
import Derived.Test.YtpheiojmcafolaaGreatDoorChecked
import Derived.JoinedOf
namespace Go.Proofs.YtpheiojmcafolaaGreatDoor
set_option maxRecDepth 100000
open Go
theorem aapart_c1 : (Rows.authApartRow.inPlace == Tryz.pinned.checked.prog.inPlace 10) = true := by kernel_rfl
theorem aapart_c2 : (Rows.authApartRow.unfollowed == Tryz.pinned.checked.prog.unfollowed 10) = true := by kernel_rfl
theorem aapart_c3 : (Rows.authApartRow.recurses == Tryz.pinned.checked.prog.recurses 10) = true := by kernel_rfl
theorem aapart_c4 : (Rows.authApartRow.named == Tryz.pinned.checked.prog.varsNamed 10) = true := by kernel_rfl
theorem aapart_closed : joinedFacts Tryz.pinned.checked.prog 10 Tryz.f10 Rows.authApartSpec Rows.authApartRow = true := by
  unfold joinedFacts
  rw [aapart_c1, aapart_c2, aapart_c3, aapart_c4]
  kernel_rfl
end Go.Proofs.YtpheiojmcafolaaGreatDoor
