/-
  The rows' three listed variables (two tables of the library, and errors.errorType): what they give a walk, and a world that meets them.
-/
import Derived.Test.YtbommoefpekalaaGreatDoorLaid
import Derived.Test.YtbommoefpekalaaGreatDoorTie
import Derived.Test.YtbommoefpekalaaGreatDoorCards
import Derived.SevenTiedAt
import Derived.LaidMore
import Derived.Lay
import Derived.Stop.Joined
import Derived.OpenShut
import Derived.LaidSub
import Derived.LaidHandle
import Derived.ProofKit
namespace Go.Proofs.YtbommoefpekalaaGreatDoor
set_option maxRecDepth 100000
open Go Go.ChangeShapes Go.WideShapes Go.ChangeAt Go.RowKit Go.WideMaps
open Go.ChangeMaps (open_string shut_string)

theorem sized_string {H : Type} {ts : List TypeId} {ds : List (DataW H)} {s : ByteArray} (h : (DataW.weightsEach Tryz.prog ts ds).all (· ≤ reachBytes) = true) {j : Nat} (ht : ts[j]? = some 9)
    (hd : ds[j]? = some (.lit (.string s.data.toList))) : s.size ≤ 140737488351232 := by
  have := List.all_eq_true.1 h s.data.toList.length (DataW.weights_mem_each ht hd _ (by simp [DataW.weights]))
  rw [← ByteArray.toList_eq, toList_len] at this
  exact of_decide_eq_true this
def laidR : List (String × DataW Unit) := [("unicode/utf8.acceptRanges", Rows.laid_unicode_utf8_acceptRanges), ("errors.errorType", Rows.laid_errors_errorType), ("unicode/utf8.first", Rows.laid_unicode_utf8_first)]
def laidT : List (String × DataW Unit) := [("unicode/utf8.acceptRanges", Rows.laid_unicode_utf8_acceptRanges), ("unicode/utf8.first", Rows.laid_unicode_utf8_first)]
theorem handle_of_laidR {W : World} (h : laidMetH Tryz.prog laidR W) : ErrCell W :=
  handle_of_laid (h.filter fun x => x.1 == "errors.errorType")
noncomputable def laidWorldR (os : Os) : World :=
  let w0 := World.laidAll Tryz.prog os laidT
  { w0 with heap := w0.heap.modify 0 fun
      | .cells _ t frozen => .cells #[.iface 174 (.agg #[.pointer (some ⟨4, 24, none⟩)])] t frozen
      | o => o }
theorem laidWorldR_os (os : Os) : (laidWorldR os).os = os := World.laidAll_os _ _ _
theorem laidWorldR_met (os : Os) (args : Array Value) : laidMetH Tryz.prog laidR ((laidWorldR os).forCall (fun _ _ => 0) ⟨#[], args, []⟩).memory :=
  laidMetH_of_parts (laidMet_of_run' 8 (by kernel_rfl) (by kernel_rfl)) (by kernel_rfl)
end Go.Proofs.YtbommoefpekalaaGreatDoor
