/-
  PLAIN WORDS: an expression put for a name.
-/
import Derived.Test.YtcghjnpllobdmaaDoorSPlain
import Derived.Test.YtcghjnpllobdmaaDoorFlat
namespace Go.Proofs.YtcghjnpllobdmaaDoor
open Go.RowKit

def isVar (s : ByteArray) (n : Nd) : Bool := n.op == 8 && n.s.toList == s.toList
/-- The nodes with v at the place of the name s. -/
def putL (e : List Nd) (s : ByteArray) (v : List Nd) : List Nd := e.flatMap fun n => if isVar s n = true then v else [n]
def putV (e : List Nd) (s : ByteArray) (v : List Nd) : List Nd × Int :=
  if treeErr e ≠ 0 then ([], treeErr e) else if treeErr v ≠ 0 then ([], treeErr v) else if 200 < (putL e s v).length then ([], 4) else (putL e s v, 0)
theorem putL_nil (s : ByteArray) (v : List Nd) : putL [] s v = [] := rfl
theorem putL_cons (n : Nd) (e : List Nd) (s : ByteArray) (v : List Nd) : putL (n :: e) s v = (if isVar s n = true then v else [n]) ++ putL e s v := by simp [putL]
theorem putL_append (a b : List Nd) (s : ByteArray) (v : List Nd) : putL (a ++ b) s v = putL a s v ++ putL b s v := by simp [putL]
theorem putL_step {e : List Nd} {k : Nat} {x : Nd} (hx : e[k]? = some x) (s : ByteArray) (v : List Nd) : putL (e.take (k + 1)) s v = putL (e.take k) s v ++ (if isVar s x = true then v else [x]) := by
  rw [List.take_add_one, hx, putL_append]; simp [putL]
theorem putL_take_le (e : List Nd) (k : Nat) (s : ByteArray) (v : List Nd) : (putL (e.take k) s v).length ≤ (putL e s v).length := by
  conv => rhs; rw [← List.take_append_drop k e]
  rw [putL_append, List.length_append]; omega
end Go.Proofs.YtcghjnpllobdmaaDoor
