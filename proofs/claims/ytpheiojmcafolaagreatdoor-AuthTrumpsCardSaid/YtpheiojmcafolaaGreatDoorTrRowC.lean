/-
  CLOSED FACTS of the row of AuthTrumps.
-/
import Derived.Test.YtpheiojmcafolaaGreatDoorRows
import Derived.Test.YtpheiojmcafolaaGreatDoorChecked
import Derived.JoinedOf
namespace Go.Proofs.YtpheiojmcafolaaGreatDoor
set_option maxRecDepth 100000
open Go
theorem atrumps_c1 : (Rows.authTrumpsRow.inPlace == Tryz.pinned.checked.prog.inPlace 7) = true := by kernel_rfl
theorem atrumps_c2 : (Rows.authTrumpsRow.unfollowed == Tryz.pinned.checked.prog.unfollowed 7) = true := by kernel_rfl
theorem atrumps_c3 : (Rows.authTrumpsRow.recurses == Tryz.pinned.checked.prog.recurses 7) = true := by kernel_rfl
theorem atrumps_c4 : (Rows.authTrumpsRow.named == Tryz.pinned.checked.prog.varsNamed 7) = true := by kernel_rfl
theorem atrumps_closed : joinedFacts Tryz.pinned.checked.prog 7 Tryz.f7 Rows.authTrumpsSpec Rows.authTrumpsRow = true := by
  unfold joinedFacts
  rw [atrumps_c1, atrumps_c2, atrumps_c3, atrumps_c4]
  kernel_rfl
end Go.Proofs.YtpheiojmcafolaaGreatDoor
