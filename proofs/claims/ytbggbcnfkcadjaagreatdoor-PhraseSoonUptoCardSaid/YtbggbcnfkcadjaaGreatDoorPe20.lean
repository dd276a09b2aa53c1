/-
  The rows' seven listed variables (tables of the library, and two errors of package strconv): what they give a walk, and a world that meets them.
  The row's condition on errors.errorType: what it gives a walk, and a world that meets it (turned from the worked ToyasProofs).
-/
import Derived.Test.YtbggbcnfkcadjaaGreatDoorRows
import Derived.Test.YtbggbcnfkcadjaaGreatDoorPe03
import Derived.Test.YtbggbcnfkcadjaaGreatDoorPe06
import Derived.Test.YtbggbcnfkcadjaaGreatDoorTie
import Derived.Test.YtbggbcnfkcadjaaGreatDoorCards
import Derived.ChangeVars
import Derived.JoinedOf
import Derived.LaidLaws
import Derived.LaidHandle
import Derived.Stop.Joined
import Derived.SevenTiedAt
import Derived.LaidMore
import Derived.Lay
import Derived.OpenShut
import Derived.LaidSub
import Derived.ProofKit
import Derived.Test.YtbggbcnfkcadjaaGreatDoorPe17
namespace Go.Proofs.YtbggbcnfkcadjaaGreatDoor
set_option maxRecDepth 100000
open Go Go.ChangeShapes Go.WideShapes Go.ChangeAt Go.RowKit Go.WideMaps
def laidB : List (String × DataW Unit) := [("math/bits.deBruijn32tab", Rows.laid_math_bits_deBruijn32tab), ("math/bits.deBruijn64tab", Rows.laid_math_bits_deBruijn64tab), ("internal/strconv.uint64pow10", Rows.laid_internal_strconv_uint64pow10), ("unicode/utf8.acceptRanges", Rows.laid_unicode_utf8_acceptRanges), ("strconv.ErrRange", Rows.laid_strconv_ErrRange), ("strconv.ErrSyntax", Rows.laid_strconv_ErrSyntax), ("unicode/utf8.first", Rows.laid_unicode_utf8_first)]
theorem Tryz.gsyn : Tryz.prog.globalNamed "strconv.ErrSyntax" = some 7 := by kernel_rfl
theorem Tryz.gran : Tryz.prog.globalNamed "strconv.ErrRange" = some 8 := by kernel_rfl
theorem Tryz.tsyn : (Tryz.prog.globals[7]?).map (·.type) = some 25 := by kernel_rfl
theorem Tryz.tran : (Tryz.prog.globals[8]?).map (·.type) = some 25 := by kernel_rfl
theorem err_of_laid {W : World} {n nm : String} {g : Nat} {d : DataW Unit} (hg : Tryz.prog.globalNamed n = some g) (ht : (Tryz.prog.globals[g]?).map (·.type) = some 25) (h : laidMet Tryz.prog [(n, .iface nm d)] W) : ∃ v, W.cell? ⟨g, 0, none⟩ = some v ∧ (v = .nilIface ∨ ∃ te pe, v = .iface te pe) := by
 obtain ⟨ps, hv, -⟩ := h
 obtain ⟨g', t, cs, fuel, p, q, e1, e2, e3, e4, -⟩ := hv
 obtain rfl := Option.some.inj (hg.symm.trans e1)
 obtain rfl := Option.some.inj (ht.symm.trans e2)
 obtain ⟨f2, u, v, hc, -⟩ := iface_of_trod Tryz.underlying25 e4
 refine ⟨.iface u v, ?_, .inr ⟨u, v, rfl⟩⟩
 have := World.var?_cell hg e3 0
 rw [this, ← Array.getElem?_toList, hc]; rfl
theorem GlC.ng {W : World} (h : GlC W) : 9 ≤ W.heap.size := by
 obtain ⟨v, h1, -⟩ := h.syn
 obtain ⟨u, h2, -⟩ := h.ran
 have l1 := World.block_lt_of_cell? W _ h1
 have l2 := World.block_lt_of_cell? W _ h2
 simp at l1 l2
 omega
end Go.Proofs.YtbggbcnfkcadjaaGreatDoor
namespace Go.Proofs.YtbggbcnfkcadjaaGreatDoor
set_option maxRecDepth 100000
open Go.ChangeShapes Go.WideShapes Go.RowKit
def laidE : List (String × DataW Unit) := [("errors.errorType", Rows.laid_errors_errorType)]
theorem Tryz.et : Tryz.prog.globalNamed "errors.errorType" = some 0 := by kernel_rfl
theorem Tryz.rt : (Tryz.prog.cutTypes.find? (·.1 == "internal/reflectlite.rtype")).map (·.2) = some 153 := by kernel_rfl
theorem Tryz.oneRow : ((List.range 347).filter fun t => Tryz.prog.rowNamed t [101, 114, 114, 111, 114]) = [25] := by kernel_rfl
theorem Tryz.size : Tryz.prog.types.size = 347 := by kernel_rfl
theorem handle_of_laid {W : World} (h : laidMetH Tryz.prog laidE W) : ErrCell W := by
 have h' : laidMet Tryz.prog [] W ∧ handlesMet Tryz.prog laidE W := h
 obtain ⟨name, u, ty, e1, e2, e3, e4, e5⟩ := h'.2 _ (List.mem_singleton.2 rfl)
 have en : name = [101, 114, 114, 111, 114] := (Option.some.inj e1).symm
 subst en
 obtain rfl := Option.some.inj (Tryz.rt.symm.trans e2)
 have hm : ty ∈ (List.range 347).filter fun t => Tryz.prog.rowNamed t [101, 114, 114, 111, 114] := List.mem_filter.2 ⟨List.mem_range.2 (by rw [← Tryz.size]; exact e3), e4⟩
 rw [Tryz.oneRow] at hm
 obtain rfl := List.mem_singleton.1 hm
 have hh : typeHandle Tryz.prog 25 = .pointer (some ⟨9, 25, none⟩) := by kernel_rfl
 rw [hh] at e5
 unfold ErrCell
 simpa using World.var?_cell Tryz.et e5 0
end Go.Proofs.YtbggbcnfkcadjaaGreatDoor
