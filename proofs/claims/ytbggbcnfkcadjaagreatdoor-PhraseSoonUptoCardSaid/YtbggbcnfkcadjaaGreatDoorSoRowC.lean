/-
  CLOSED FACTS of the row of PhraseSoon, of bulk at most so much.
-/
import Derived.Test.YtbggbcnfkcadjaaGreatDoorRows
import Derived.Test.YtbggbcnfkcadjaaGreatDoorChecked
import Derived.JoinedOf
namespace Go.Proofs.YtbggbcnfkcadjaaGreatDoor
set_option maxRecDepth 100000
open Go
theorem soon_c1 : (Rows.phraseSoonUptoRow.inPlace == Tryz.pinned.checked.prog.inPlace 7) = true := by kernel_rfl
theorem soon_c2 : (Rows.phraseSoonUptoRow.unfollowed == Tryz.pinned.checked.prog.unfollowed 7) = true := by kernel_rfl
theorem soon_c3 : (Rows.phraseSoonUptoRow.recurses == Tryz.pinned.checked.prog.recurses 7) = true := by kernel_rfl
theorem soon_c4 : (Rows.phraseSoonUptoRow.named == Tryz.pinned.checked.prog.varsNamed 7) = true := by kernel_rfl
theorem soon_closed : joinedFacts Tryz.pinned.checked.prog 7 Tryz.f7 (Rows.OpenSpec.upto Rows.phraseSoonSpec).bare Rows.phraseSoonUptoRow = true := by
  unfold joinedFacts
  rw [soon_c1, soon_c2, soon_c3, soon_c4]
  kernel_rfl
end Go.Proofs.YtbggbcnfkcadjaaGreatDoor
