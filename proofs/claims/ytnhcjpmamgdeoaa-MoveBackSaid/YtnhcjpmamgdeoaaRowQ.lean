/-
  ARGUMENTS: strings in a reading; the reach of an argument.
-/
import Derived.Test.YtnhcjpmamgdeoaaRow1
namespace Go.Proofs.Ytnhcjpmamgdeoaa
set_option maxRecDepth 100000
open Go.ChangeShapes Go.WideShapes Go.RowKit Go.Deep

def strD {H : Type} (s : ByteArray) : DataW H := .lit (.string s.data.toList)
theorem cells_int : Try.prog.cellsOf 3 = 1 := by kernel_rfl
theorem cells_str : Try.prog.cellsOf 9 = 1 := by kernel_rfl
section
variable {H : Type}
theorem size_of_weight {s : ByteArray} (h : s.data.toList.length ≤ reachBytes) : s.size ≤ 140737488351232 := by
  rw [← ByteArray.toList_eq, toList_len] at h
  simpa only [reachBytes] using h
/-- The reach of an argument. -/
theorem sized_at {ts : List TypeId} {ds : List (DataW H)} (h : (DataW.weightsEach Try.prog ts ds).all (· ≤ reachBytes) = true) {j : Nat} {t : TypeId} {d : DataW H} (ht : ts[j]? = some t) (hd : ds[j]? = some d) : ∀ n, n ∈ d.weights Try.prog t → n ≤ reachBytes := fun n hn => by
  have := List.all_eq_true.1 h n (DataW.weights_mem_each ht hd n hn)
  simpa using this
end
end Go.Proofs.Ytnhcjpmamgdeoaa
