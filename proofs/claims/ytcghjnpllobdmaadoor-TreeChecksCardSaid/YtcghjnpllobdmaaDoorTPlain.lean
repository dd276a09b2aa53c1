/-
  PLAIN WORDS: expressions: what package tree computes, in lists.
-/
import Derived.Test.YtcghjnpllobdmaaDoorVPlain
import Derived.Lib.IndexBytes
namespace Go.Proofs.YtcghjnpllobdmaaDoor
open Go.RowKit

/-- What is wrong with a value: the number of the error. -/
def valErr (e : List Nd) : Int := if 200 < e.length then 4 else if vGo e (2 * e.length) .one 0 = some e.length then 0 else 1
/-- A name that stands for something. -/
def variableB (l : List UInt8) : Bool :=
  match l with
  | [] => nameErr [] == 0 && !reserved []
  | c :: r => if c = 63 then nameErr r == 0 else nameErr (c :: r) == 0 && !reserved (c :: r)
/-- A node of an expression: may it be one? -/
def shapedT (x : Nd) : Bool :=
  if x.op = 1 ∨ x.op = 2 ∨ x.op = 3 ∨ x.op = 4 then valErr [x] == 0
  else if x.op = 5 ∨ x.op = 6 then decide (0 ≤ x.n) && x.s.toList.isEmpty && x.t.toList.isEmpty
  else if x.op = 8 then x.n == 0 && x.t.toList.isEmpty && variableB x.s.toList
  else if x.op = 7 ∨ x.op = 21 ∨ x.op = 22 ∨ x.op = 24 then x.n == 0 && x.t.toList.isEmpty && nameErr x.s.toList == 0
  else if x.op = 23 then x.n == 0 && x.t.toList.isEmpty && textErr x.s.toList == 0
  else decide (0 < ndParts x) && x.n == 0 && x.s.toList.isEmpty && x.t.toList.isEmpty
theorem extract_one (s : ByteArray) : (s.extract 1 s.size).toList = s.toList.drop 1 := by
  rw [ByteArray.toList_eq, ByteArray.toList_eq, Lib.extract_to_end]
theorem extract_size (s : ByteArray) : (s.extract 1 s.size).size = s.size - 1 := by
  rw [← toList_len, extract_one, List.length_drop, toList_len]
end Go.Proofs.YtcghjnpllobdmaaDoor
