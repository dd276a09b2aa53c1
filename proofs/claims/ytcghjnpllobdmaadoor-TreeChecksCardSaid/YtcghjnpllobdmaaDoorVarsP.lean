/-
  PLAIN WORDS: the names of an expression, rising, each once.
-/
import Derived.Test.YtcghjnpllobdmaaDoorGPlain
import Derived.Test.YtcghjnpllobdmaaDoorStrs
namespace Go.Proofs.YtcghjnpllobdmaaDoor
open Go.RowKit

def varsL (e : List Nd) : List (List UInt8) := Lib.compact (sorted (varNames e))
def varsR (e : List Nd) : List (List UInt8) := if treeErr e = 0 then varsL e else []
theorem varNames_step {e : List Nd} {k : Nat} {x : Nd} (hx : e[k]? = some x) : varNames (e.take (k + 1)) = varNames (e.take k) ++ (if x.op == 8 then [x.s.toList] else []) := by
  rw [List.take_add_one, hx, varNames_append, Option.toList_some, varNames_cons]
  simp [varNames]
theorem varNames_len (e : List Nd) : (varNames e).length ≤ e.length := by
  unfold varNames; rw [List.length_map]; exact List.length_filter_le _ _
end Go.Proofs.YtcghjnpllobdmaaDoor
