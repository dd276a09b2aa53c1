/-
  ARGUMENTS that are moves, opened.
-/
import Derived.Test.YtnhcjpmamgdeoaaRowQ
import Derived.Test.YtnhcjpmamgdeoaaMvA
namespace Go.Proofs.Ytnhcjpmamgdeoaa
set_option maxRecDepth 100000
open Go.ChangeShapes Go.WideShapes Go.RowKit Go.Deep

def mvData {H : Type} (m : Mv) : DataW H := .agg [.lit (.int .i64 m.what), strD m.fr, strD m.to_]
theorem cells_move : Try.prog.cellsOf 51 = 3 := by kernel_rfl
section
variable {H : Type} {enc : TypeId × Value → H} {W : World}
theorem move_trod {base : Nat} {spare : Nat → Bool} {held : Bool} {n : Nat} {cs : List Value} {y : DataW H × List MemPlace} (h : DataW.trod enc Try.prog W base spare held n 51 cs = some y) :
    ∃ m : Mv, cs = [.int .i64 m.what, .string m.fr, .string m.to_] ∧ y.1 = mvData m := by
  obtain ⟨xs, m, _, hy, hlen, hxl, hf⟩ := DataW.trod_struct Try.underlying51 h
  rw [cells_move] at hlen
  match cs, hlen with
  | [c0, c1, c2], _ =>
    match xs, hxl with
    | [y0, y1, y2], _ =>
      have e0 : DataW.trod enc Try.prog W base spare held m 3 (([c0, c1, c2].drop 0).take (Try.prog.cellsOf 3)) = some y0 := hf 0 _ rfl
      have e1 : DataW.trod enc Try.prog W base spare held m 9 (([c0, c1, c2].drop 1).take (Try.prog.cellsOf 9)) = some y1 := hf 1 _ rfl
      have e2 : DataW.trod enc Try.prog W base spare held m 9 (([c0, c1, c2].drop 2).take (Try.prog.cellsOf 9)) = some y2 := hf 2 _ rfl
      simp only [cells_str, cells_int, List.drop_zero, List.drop_succ_cons, List.take_succ_cons, List.take_zero] at e0 e1 e2
      obtain ⟨a0, q0, r0, _⟩ := DataW.trod_int Try.underlying3 e0
      obtain ⟨a1, q1, r1, _⟩ := DataW.trod_string Try.underlying9 e1
      obtain ⟨a2, q2, r2, _⟩ := DataW.trod_string Try.underlying9 e2
      simp only [List.cons.injEq, and_true] at q0 q1 q2
      subst q0 q1 q2 r0 r1 r2
      exact ⟨⟨a0, a1, a2⟩, rfl, by rw [hy]; rfl⟩
theorem open_move {b0 : Nat} {v : Value} {d : DataW H} {p : List MemPlace} (hv : Value.okWide Try.prog W .any b0 51 v) (h : DataW.Trod enc Try.prog W 0 (fun _ => true) true 51 v d p) :
    ∃ m : Mv, v = .agg #[.int .i64 m.what, .string m.fr, .string m.to_] ∧ d = mvData m := by
  obtain ⟨cs, rfl, hsz⟩ := okWide_struct Try.underlying51 hv
  obtain ⟨l⟩ := cs
  obtain ⟨fuel, hf⟩ := h
  obtain ⟨m, h1, h2⟩ := move_trod hf
  refine ⟨m, ?_, h2⟩
  simp only [Value.cells] at h1
  subst h1
  rfl
theorem mv_weights {m : Mv} (h : ∀ n, n ∈ (mvData m : DataW H).weights Try.prog 51 → n ≤ reachBytes) : MvZ m :=
  ⟨size_of_weight (h _ (by simp [mvData, strD, DataW.weights, Try.underlying51, DataW.weightsEach])), size_of_weight (h _ (by simp [mvData, strD, DataW.weights, Try.underlying51, DataW.weightsEach]))⟩
theorem move_rec : Try.prog.readableRec 51 = true := by kernel_rfl
theorem move_lt : 51 < Try.prog.types.size := of_decide_eq_true (by kernel_rfl)
end
end Go.Proofs.Ytnhcjpmamgdeoaa
