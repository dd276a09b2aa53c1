/-
  Facts of the seat's program that each row asks.
-/
import Derived.Test.YtbommoefpekalaaGreatRow0
import Derived.Test.YtbommoefpekalaaGreatRowGA
namespace Go.Proofs.YtbommoefpekalaaGreat
open Go.ChangeShapes Go.WideShapes Go.ChangeAt Go.RowKit Go.WideMaps

theorem nodes_rec : Tryz.prog.readableRec 38 = true := by kernel_rfl
theorem nodes_lt : 38 < Tryz.prog.types.size := of_decide_eq_true (by kernel_rfl)
end Go.Proofs.YtbommoefpekalaaGreat
