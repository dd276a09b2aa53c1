/-
  CLOSED FACTS of the row of PhraseNumbers.
-/
import Derived.Test.YtbggbcnfkcadjaaGreatDoorRows
import Derived.Test.YtbggbcnfkcadjaaGreatDoorChecked
import Derived.JoinedOf
namespace Go.Proofs.YtbggbcnfkcadjaaGreatDoor
set_option maxRecDepth 100000
open Go
theorem numbers_c1 : (Rows.phraseNumbersRow.inPlace == Tryz.pinned.checked.prog.inPlace 9) = true := by kernel_rfl
theorem numbers_c2 : (Rows.phraseNumbersRow.unfollowed == Tryz.pinned.checked.prog.unfollowed 9) = true := by kernel_rfl
theorem numbers_c3 : (Rows.phraseNumbersRow.recurses == Tryz.pinned.checked.prog.recurses 9) = true := by kernel_rfl
theorem numbers_c4 : (Rows.phraseNumbersRow.named == Tryz.pinned.checked.prog.varsNamed 9) = true := by kernel_rfl
theorem numbers_closed : joinedFacts Tryz.pinned.checked.prog 9 Tryz.f9 Rows.phraseNumbersSpec Rows.phraseNumbersRow = true := by
  unfold joinedFacts
  rw [numbers_c1, numbers_c2, numbers_c3, numbers_c4]
  kernel_rfl
end Go.Proofs.YtbggbcnfkcadjaaGreatDoor
