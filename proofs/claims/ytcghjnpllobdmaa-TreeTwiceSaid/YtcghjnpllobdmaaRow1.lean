/-
  Facts of the seat's program that each row asks.
-/
import Derived.Test.YtcghjnpllobdmaaRow0
namespace Go.Proofs.Ytcghjnpllobdmaa
open Go.ChangeShapes Go.WideShapes Go.ChangeAt Go.RowKit Go.WideMaps

theorem Try.own : ownKnob Try.prog.godebug = none := by kernel_rfl
theorem Try.laidOut : laidOutB Try.prog = true := by kernel_rfl
theorem nodes_rec : Try.prog.readableRec 22 = true := by kernel_rfl
theorem nodes_lt : 22 < Try.prog.types.size := of_decide_eq_true (by kernel_rfl)
end Go.Proofs.Ytcghjnpllobdmaa
