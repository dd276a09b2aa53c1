/-
  The rows' seven listed variables (tables of the library, and two errors of package strconv): what they give a walk, and a world that meets them.
  The rows' listed table of the powers of ten: what it gives a walk.
  The row's condition on errors.errorType: what it gives a walk, and a world that meets it (turned from the worked ToyasProofs).
  The row's four listed variables (tables of the library, and errors.errorType): what they give a walk, and a world that meets them.
-/
import Derived.Test.YtbggbcnfkcadjaaGreatDoorRows
import Derived.Test.YtbggbcnfkcadjaaGreatDoorPf03
import Derived.Test.YtbggbcnfkcadjaaGreatDoorPf06
import Derived.Test.YtbggbcnfkcadjaaGreatDoorTie
import Derived.Test.YtbggbcnfkcadjaaGreatDoorCards
import Derived.ChangeVars
import Derived.JoinedOf
import Derived.LaidLaws
import Derived.LaidHandle
import Derived.Stop.Joined
import Derived.SevenTiedAt
import Derived.LaidMore
import Derived.Lay
import Derived.OpenShut
import Derived.LaidSub
import Derived.ProofKit
import Derived.Test.YtbggbcnfkcadjaaGreatDoorPf15
import Derived.Lib.LaidTab
import Derived.Test.YtbggbcnfkcadjaaGreatDoorPf27
namespace Go.Proofs.YtbggbcnfkcadjaaGreatDoor
set_option maxRecDepth 100000
open Go Go.ChangeShapes Go.WideShapes Go.ChangeAt Go.RowKit Go.WideMaps
theorem GlC.ng {W : World} (h : GlC W) : 9 ≤ W.heap.size := by
 obtain ⟨v, h1, -⟩ := h.syn
 obtain ⟨u, h2, -⟩ := h.ran
 have l1 := World.block_lt_of_cell? W _ h1
 have l2 := World.block_lt_of_cell? W _ h2
 simp at l1 l2
 omega
end Go.Proofs.YtbggbcnfkcadjaaGreatDoor
namespace Go.Proofs.YtbggbcnfkcadjaaGreatDoor
set_option maxRecDepth 100000
open Go Go.ChangeShapes Go.WideShapes Go.ChangeAt Go.RowKit Go.WideMaps
theorem Tryz.gpow : Tryz.prog.globalNamed "internal/strconv.uint64pow10" = some 2 := by kernel_rfl
theorem Tryz.tpow : (Tryz.prog.globals[2]?).map (·.type) = some 232 := by kernel_rfl
theorem pow_data : (Rows.laid_internal_strconv_uint64pow10 : DataW Unit) = Lib.tabData .u64 Lib.pow10Tab := by rfl
end Go.Proofs.YtbggbcnfkcadjaaGreatDoor
namespace Go.Proofs.YtbggbcnfkcadjaaGreatDoor
set_option maxRecDepth 100000
open Go.ChangeShapes Go.WideShapes Go.RowKit
def laidE : List (String × DataW Unit) := [("errors.errorType", Rows.laid_errors_errorType)]
theorem Tryz.et : Tryz.prog.globalNamed "errors.errorType" = some 0 := by kernel_rfl
theorem Tryz.rt : (Tryz.prog.cutTypes.find? (·.1 == "internal/reflectlite.rtype")).map (·.2) = some 153 := by kernel_rfl
theorem Tryz.oneRow : ((List.range 347).filter fun t => Tryz.prog.rowNamed t [101, 114, 114, 111, 114]) = [25] := by kernel_rfl
theorem Tryz.size : Tryz.prog.types.size = 347 := by kernel_rfl
theorem handle_of_laid {W : World} (h : laidMetH Tryz.prog laidE W) : ErrCell W := by
 have h' : laidMet Tryz.prog [] W ∧ handlesMet Tryz.prog laidE W := h
 obtain ⟨name, u, ty, e1, e2, e3, e4, e5⟩ := h'.2 _ (List.mem_singleton.2 rfl)
 have en : name = [101, 114, 114, 111, 114] := (Option.some.inj e1).symm
 subst en
 obtain rfl := Option.some.inj (Tryz.rt.symm.trans e2)
 have hm : ty ∈ (List.range 347).filter fun t => Tryz.prog.rowNamed t [101, 114, 114, 111, 114] := List.mem_filter.2 ⟨List.mem_range.2 (by rw [← Tryz.size]; exact e3), e4⟩
 rw [Tryz.oneRow] at hm
 obtain rfl := List.mem_singleton.1 hm
 have hh : typeHandle Tryz.prog 25 = .pointer (some ⟨9, 25, none⟩) := by kernel_rfl
 rw [hh] at e5
 unfold ErrCell
 simpa using World.var?_cell Tryz.et e5 0
end Go.Proofs.YtbggbcnfkcadjaaGreatDoor
namespace Go.Proofs.YtbggbcnfkcadjaaGreatDoor
set_option maxRecDepth 100000
open Go Go.ChangeShapes Go.WideShapes Go.ChangeAt Go.RowKit Go.WideMaps
def laidQ3 : List (String × DataW Unit) := [("math/bits.deBruijn32tab", Rows.laid_math_bits_deBruijn32tab), ("math/bits.deBruijn64tab", Rows.laid_math_bits_deBruijn64tab), ("internal/strconv.uint64pow10", Rows.laid_internal_strconv_uint64pow10)]
def laidQ : List (String × DataW Unit) := [("math/bits.deBruijn32tab", Rows.laid_math_bits_deBruijn32tab), ("math/bits.deBruijn64tab", Rows.laid_math_bits_deBruijn64tab), ("internal/strconv.uint64pow10", Rows.laid_internal_strconv_uint64pow10), ("errors.errorType", Rows.laid_errors_errorType)]
theorem handle_of_laidQ {W : World} (h : laidMetH Tryz.prog laidQ W) : ErrCell W :=
 handle_of_laid (h.filter fun x => x.1 == "errors.errorType")
theorem tab_of_laidQ {W : World} (h : laidMetH Tryz.prog laidQ W) : TabP W := by
 have h1 : laidMet Tryz.prog [("internal/strconv.uint64pow10", Rows.laid_internal_strconv_uint64pow10)] W := h.filter fun x => x.1 == "internal/strconv.uint64pow10"
 rw [pow_data] at h1
 exact Lib.tabIs_of_head Tryz.gpow Tryz.tpow Tryz.underlying232 Tryz.underlying214 (by kernel_rfl) (by kernel_rfl) h1
noncomputable def laidWorldQ (os : Os) : World :=
 let w0 := World.laidAll Tryz.prog os laidQ3
 { w0 with heap := w0.heap.modify 0 fun
     | .cells _ t frozen => .cells #[.iface 153 (.agg #[.pointer (some ⟨9, 25, none⟩)])] t frozen
     | o => o }
theorem laidWorldQ_os (os : Os) : (laidWorldQ os).os = os := World.laidAll_os _ _ _
theorem laidWorldQ_met (os : Os) (args : Array Value) : laidMetH Tryz.prog laidQ ((laidWorldQ os).forCall (fun _ _ => 0) ⟨#[], args, []⟩).memory :=
 laidMetH_of_parts (laidMet_of_run' 8 (by kernel_rfl) (by kernel_rfl)) (by kernel_rfl)
end Go.Proofs.YtbggbcnfkcadjaaGreatDoor
