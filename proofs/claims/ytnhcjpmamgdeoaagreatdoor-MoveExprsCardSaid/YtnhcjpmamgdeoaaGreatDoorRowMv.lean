/-
  ARGUMENTS: strings in a reading; the reach of an argument.
  ARGUMENTS that are moves, opened.
-/
import Derived.Test.YtnhcjpmamgdeoaaGreatDoorRow1
import Derived.Test.YtnhcjpmamgdeoaaGreatDoorMvA
namespace Go.Proofs.YtnhcjpmamgdeoaaGreatDoor
set_option maxRecDepth 100000
open Go.ChangeShapes Go.WideShapes Go.RowKit Go.Deep

def strD {H : Type} (s : ByteArray) : DataW H := .lit (.string s.data.toList)
theorem cells_int : Tryz.prog.cellsOf 3 = 1 := by kernel_rfl
theorem cells_str : Tryz.prog.cellsOf 9 = 1 := by kernel_rfl
section
variable {H : Type}
theorem size_of_weight {s : ByteArray} (h : s.data.toList.length ≤ reachBytes) : s.size ≤ 140737488351232 := by
  rw [← ByteArray.toList_eq, toList_len] at h
  simpa only [reachBytes] using h
/-- The reach of an argument. -/
theorem sized_at {ts : List TypeId} {ds : List (DataW H)} (h : (DataW.weightsEach Tryz.prog ts ds).all (· ≤ reachBytes) = true) {j : Nat} {t : TypeId} {d : DataW H} (ht : ts[j]? = some t) (hd : ds[j]? = some d) : ∀ n, n ∈ d.weights Tryz.prog t → n ≤ reachBytes := fun n hn => by
  have := List.all_eq_true.1 h n (DataW.weights_mem_each ht hd n hn)
  simpa using this
end
end Go.Proofs.YtnhcjpmamgdeoaaGreatDoor
namespace Go.Proofs.YtnhcjpmamgdeoaaGreatDoor
set_option maxRecDepth 100000
open Go.ChangeShapes Go.WideShapes Go.RowKit Go.Deep

def mvData {H : Type} (m : Mv) : DataW H := .agg [.lit (.int .i64 m.what), strD m.fr, strD m.to_]
theorem cells_move : Tryz.prog.cellsOf 23 = 3 := by kernel_rfl
section
variable {H : Type} {enc : TypeId × Value → H} {W : World}
theorem move_trod {base : Nat} {spare : Nat → Bool} {held : Bool} {n : Nat} {cs : List Value} {y : DataW H × List MemPlace} (h : DataW.trod enc Tryz.prog W base spare held n 23 cs = some y) :
    ∃ m : Mv, cs = [.int .i64 m.what, .string m.fr, .string m.to_] ∧ y.1 = mvData m := by
  obtain ⟨xs, m, _, hy, hlen, hxl, hf⟩ := DataW.trod_struct Tryz.underlying23 h
  rw [cells_move] at hlen
  match cs, hlen with
  | [c0, c1, c2], _ =>
    match xs, hxl with
    | [y0, y1, y2], _ =>
      have e0 : DataW.trod enc Tryz.prog W base spare held m 3 (([c0, c1, c2].drop 0).take (Tryz.prog.cellsOf 3)) = some y0 := hf 0 _ rfl
      have e1 : DataW.trod enc Tryz.prog W base spare held m 9 (([c0, c1, c2].drop 1).take (Tryz.prog.cellsOf 9)) = some y1 := hf 1 _ rfl
      have e2 : DataW.trod enc Tryz.prog W base spare held m 9 (([c0, c1, c2].drop 2).take (Tryz.prog.cellsOf 9)) = some y2 := hf 2 _ rfl
      simp only [cells_str, cells_int, List.drop_zero, List.drop_succ_cons, List.take_succ_cons, List.take_zero] at e0 e1 e2
      obtain ⟨a0, q0, r0, _⟩ := DataW.trod_int Tryz.underlying3 e0
      obtain ⟨a1, q1, r1, _⟩ := DataW.trod_string Tryz.underlying9 e1
      obtain ⟨a2, q2, r2, _⟩ := DataW.trod_string Tryz.underlying9 e2
      simp only [List.cons.injEq, and_true] at q0 q1 q2
      subst q0 q1 q2 r0 r1 r2
      exact ⟨⟨a0, a1, a2⟩, rfl, by rw [hy]; rfl⟩
theorem open_move {b0 : Nat} {v : Value} {d : DataW H} {p : List MemPlace} (hv : Value.okWide Tryz.prog W .any b0 23 v) (h : DataW.Trod enc Tryz.prog W 0 (fun _ => true) true 23 v d p) :
    ∃ m : Mv, v = .agg #[.int .i64 m.what, .string m.fr, .string m.to_] ∧ d = mvData m := by
  obtain ⟨cs, rfl, hsz⟩ := okWide_struct Tryz.underlying23 hv
  obtain ⟨l⟩ := cs
  obtain ⟨fuel, hf⟩ := h
  obtain ⟨m, h1, h2⟩ := move_trod hf
  refine ⟨m, ?_, h2⟩
  simp only [Value.cells] at h1
  subst h1
  rfl
theorem mv_weights {m : Mv} (h : ∀ n, n ∈ (mvData m : DataW H).weights Tryz.prog 23 → n ≤ reachBytes) : MvZ m :=
  ⟨size_of_weight (h _ (by simp [mvData, strD, DataW.weights, Tryz.underlying23, DataW.weightsEach])), size_of_weight (h _ (by simp [mvData, strD, DataW.weights, Tryz.underlying23, DataW.weightsEach]))⟩
theorem move_rec : Tryz.prog.readableRec 23 = true := by kernel_rfl
theorem move_lt : 23 < Tryz.prog.types.size := of_decide_eq_true (by kernel_rfl)
end
end Go.Proofs.YtnhcjpmamgdeoaaGreatDoor
