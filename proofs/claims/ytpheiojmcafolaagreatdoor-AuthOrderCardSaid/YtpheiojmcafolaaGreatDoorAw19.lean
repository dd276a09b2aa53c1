/-
  ARGUMENTS that are lists of ints, opened.
-/
import Derived.Test.YtpheiojmcafolaaGreatDoorAw07
import Derived.Test.YtpheiojmcafolaaGreatDoorAw18
namespace Go.Proofs.YtpheiojmcafolaaGreatDoor
set_option maxRecDepth 100000
open Go.ChangeShapes Go.WideShapes Go.RowKit Go.Deep
section
variable {H : Type} {enc : TypeId × Value → H} {W : World}
theorem open_ints {b0 : Nat} {v : Value} {d : DataW H} {p : List MemPlace} (hv : Value.okWide Tryz.prog W .any b0 68 v) (h : DataW.Trod enc Tryz.prog W 0 (fun _ => true) true 68 v d p) :
   ∃ (A : Option Addr) (xs : List Int) (c : Nat), v = .slice A xs.length c ∧ xs.length ≤ c ∧ c ≤ 9223372036854775807 ∧ InSl W W.heap.size A xs := by
 obtain ⟨a0, len, cap, rfl⟩ := okWide_slice Tryz.underlying68 hv
 obtain ⟨fuel, hf⟩ := h
 obtain ⟨A, xs, c, h1, h2, h3, h4, _, h6⟩ := open_gen (en := inC) (data := fun k => .lit (.int .i64 k)) (Good := fun _ => True) Tryz.underlying68 cells_int inC_ok (fun _ _ _ h => by
   obtain ⟨a, q, r, _⟩ := DataW.trod_int Tryz.underlying3 h
   exact ⟨a, q, by rw [r], trivial⟩) hf
 simp only [Value.cells, List.cons.injEq, and_true] at h1
 exact ⟨A, xs, c, h1, h2, h3, h4⟩
theorem ints_rec : Tryz.prog.readableRec 68 = true := by kernel_rfl
theorem ints_lt : 68 < Tryz.prog.types.size := of_decide_eq_true (by kernel_rfl)
end
end Go.Proofs.YtpheiojmcafolaaGreatDoor
