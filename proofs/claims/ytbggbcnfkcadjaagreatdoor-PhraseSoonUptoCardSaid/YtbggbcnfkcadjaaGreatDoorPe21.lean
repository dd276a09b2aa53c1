/-
  The row's eight listed variables (tables of the library, two errors of package strconv, and errors.errorType): what they give a walk, and a world that meets them.
-/
import Derived.Test.YtbggbcnfkcadjaaGreatDoorPe20
namespace Go.Proofs.YtbggbcnfkcadjaaGreatDoor
set_option maxRecDepth 100000
open Go Go.ChangeShapes Go.WideShapes Go.ChangeAt Go.RowKit Go.WideMaps
def laidU : List (String × DataW Unit) := [("math/bits.deBruijn32tab", Rows.laid_math_bits_deBruijn32tab), ("math/bits.deBruijn64tab", Rows.laid_math_bits_deBruijn64tab), ("internal/strconv.uint64pow10", Rows.laid_internal_strconv_uint64pow10), ("unicode/utf8.acceptRanges", Rows.laid_unicode_utf8_acceptRanges), ("errors.errorType", Rows.laid_errors_errorType), ("strconv.ErrRange", Rows.laid_strconv_ErrRange), ("strconv.ErrSyntax", Rows.laid_strconv_ErrSyntax), ("unicode/utf8.first", Rows.laid_unicode_utf8_first)]
theorem gl_of_laidU {W : World} (h : laidMetH Tryz.prog laidU W) : GlC W := by
 have h1 : laidMet Tryz.prog [("strconv.ErrSyntax", Rows.laid_strconv_ErrSyntax)] W := h.filter fun x => x.1 == "strconv.ErrSyntax"
 have h2 : laidMet Tryz.prog [("strconv.ErrRange", Rows.laid_strconv_ErrRange)] W := h.filter fun x => x.1 == "strconv.ErrRange"
 exact ⟨err_of_laid Tryz.gsyn Tryz.tsyn h1, err_of_laid Tryz.gran Tryz.tran h2⟩
theorem handle_of_laidU {W : World} (h : laidMetH Tryz.prog laidU W) : ErrCell W :=
 handle_of_laid (h.filter fun x => x.1 == "errors.errorType")
noncomputable def laidWorldU (os : Os) : World :=
 let w0 := World.laidAll Tryz.prog os laidB
 { w0 with heap := w0.heap.modify 0 fun
     | .cells _ t frozen => .cells #[.iface 153 (.agg #[.pointer (some ⟨9, 25, none⟩)])] t frozen
     | o => o }
theorem laidWorldU_os (os : Os) : (laidWorldU os).os = os := World.laidAll_os _ _ _
theorem laidWorldU_met (os : Os) (args : Array Value) : laidMetH Tryz.prog laidU ((laidWorldU os).forCall (fun _ _ => 0) ⟨#[], args, []⟩).memory :=
 laidMetH_of_parts (laidMet_of_run' 8 (by kernel_rfl) (by kernel_rfl)) (by kernel_rfl)
end Go.Proofs.YtbggbcnfkcadjaaGreatDoor
