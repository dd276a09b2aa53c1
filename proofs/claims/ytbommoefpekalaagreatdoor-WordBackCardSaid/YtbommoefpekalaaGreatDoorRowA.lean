/-
  Facts of the seat's program that each row asks.
-/
import Derived.Test.YtbommoefpekalaaGreatDoorRowG
namespace Go.Proofs.YtbommoefpekalaaGreatDoor
open Go.ChangeShapes Go.WideShapes Go.ChangeAt Go.RowKit Go.WideMaps

theorem Tryz.own : ownKnob Tryz.prog.godebug = none := by kernel_rfl
theorem Tryz.laidOut : laidOutB Tryz.prog = true := by kernel_rfl
end Go.Proofs.YtbommoefpekalaaGreatDoor
