/-
  Facts of the seat's program that each row asks.
-/
import Derived.Test.YtcghjnpllobdmaaDoorRow0
namespace Go.Proofs.YtcghjnpllobdmaaDoor
open Go.ChangeShapes Go.WideShapes Go.ChangeAt Go.RowKit Go.WideMaps

theorem Tryd.own : ownKnob Tryd.prog.godebug = none := by kernel_rfl
theorem Tryd.laidOut : laidOutB Tryd.prog = true := by kernel_rfl
theorem nodes_rec : Tryd.prog.readableRec 30 = true := by kernel_rfl
theorem nodes_lt : 30 < Tryd.prog.types.size := of_decide_eq_true (by kernel_rfl)
end Go.Proofs.YtcghjnpllobdmaaDoor
