/-
  THE WALK of the law PhraseBack.
-/
import Derived.Test.YtbggbcnfkcadjaaGreatDoorPf16
namespace Go.Proofs.YtbggbcnfkcadjaaGreatDoor
set_option maxRecDepth 100000
open Go.RowKit Go.Sort
theorem TabP.far {w W : World} (h : TabP w) (hb : RowKit.Below w.heap.size w W) : TabP W := Lib.tabBelow_of_tabIs h W hb
theorem small_nd {x : Nd} (hs : x.s.size ≤ 100) (ht : x.t.size ≤ 100) : x.s.size ≤ 140737488351232 ∧ x.t.size ≤ 140737488351232 := ⟨by omega, by omega⟩
structure NdArg (w : World) (A : Option Addr) (c : Nat) (e : List Nd) : Prop where
 sl : NdSl w w.heap.size A e
 le : e.length ≤ c
 max : c ≤ 9223372036854775807
 ok : NdOk e
 num : NumK e
end Go.Proofs.YtbggbcnfkcadjaaGreatDoor
