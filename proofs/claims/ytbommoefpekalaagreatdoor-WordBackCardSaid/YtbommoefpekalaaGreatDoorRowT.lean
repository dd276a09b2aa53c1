/-
  ARGUMENTS that are lists of words, opened.
-/
import Derived.Test.YtbommoefpekalaaGreatDoorRowG
import Derived.Test.YtbommoefpekalaaGreatDoorToks
namespace Go.Proofs.YtbommoefpekalaaGreatDoor
set_option maxRecDepth 100000
open Go.ChangeShapes Go.WideShapes Go.RowKit Go.Deep

def tkData {H : Type} (x : Tk) : DataW H := .agg [.lit (.int .i64 x.kind), .lit (.string x.s.data.toList), .lit (.int .i64 x.at_)]
theorem cells_tok : Tryz.prog.cellsOf 28 = 3 := by kernel_rfl
section
variable {H : Type} {enc : TypeId × Value → H} {W : World}
theorem tok_trod {base : Nat} {spare : Nat → Bool} {held : Bool} {n : Nat} {cs : List Value} {y : DataW H × List MemPlace} (h : DataW.trod enc Tryz.prog W base spare held n 28 cs = some y) :
    ∃ x : Tk, cs = x.cells ∧ y.1 = tkData x ∧ True := by
  obtain ⟨xs, m, _, hy, hlen, hxl, hf⟩ := DataW.trod_struct Tryz.underlying28 h
  rw [cells_tok] at hlen
  match cs, hlen with
  | [c0, c1, c2], _ =>
    match xs, hxl with
    | [y0, y1, y2], _ =>
      have e0 : DataW.trod enc Tryz.prog W base spare held m 3 (([c0, c1, c2].drop 0).take (Tryz.prog.cellsOf 3)) = some y0 := hf 0 _ rfl
      have e1 : DataW.trod enc Tryz.prog W base spare held m 9 (([c0, c1, c2].drop 1).take (Tryz.prog.cellsOf 9)) = some y1 := hf 1 _ rfl
      have e2 : DataW.trod enc Tryz.prog W base spare held m 3 (([c0, c1, c2].drop 2).take (Tryz.prog.cellsOf 3)) = some y2 := hf 2 _ rfl
      have k3 : Tryz.prog.cellsOf 3 = 1 := by kernel_rfl
      have k9 : Tryz.prog.cellsOf 9 = 1 := by kernel_rfl
      simp only [k3, k9, List.drop_zero, List.drop_succ_cons, List.take_succ_cons, List.take_zero] at e0 e1 e2
      obtain ⟨a0, q0, r0, _⟩ := DataW.trod_int Tryz.underlying3 e0
      obtain ⟨a1, q1, r1, _⟩ := DataW.trod_string Tryz.underlying9 e1
      obtain ⟨a2, q2, r2, _⟩ := DataW.trod_int Tryz.underlying3 e2
      simp only [List.cons.injEq, and_true] at q0 q1 q2
      subst q0 q1 q2 r0 r1 r2
      exact ⟨⟨a0, a1, a2⟩, rfl, by rw [hy]; rfl, trivial⟩
/-- An argument that is a list of words. -/
theorem open_toks {base : Nat} {v : Value} {d : DataW H} {p : List MemPlace} (hv : Value.okWide Tryz.prog W .any base 22 v) (h : DataW.Trod enc Tryz.prog W 0 (fun _ => true) true 22 v d p) :
    ∃ (A : Option Addr) (xs : List Tk) (c : Nat), v = .slice A xs.length c ∧ xs.length ≤ c ∧ c ≤ 9223372036854775807 ∧ TkSl W W.heap.size A xs ∧ (xs = [] ∨ ∃ sp, d = .slice (xs.map tkData) sp) := by
  obtain ⟨a0, len, cap, rfl⟩ := okWide_slice Tryz.underlying22 hv
  obtain ⟨fuel, hf⟩ := h
  obtain ⟨A, xs, c, hcs, h1, h2, h3, _, h5⟩ := open_gen Tryz.underlying22 cells_tok tk_ok (fun _ _ _ h => tok_trod h) hf
  refine ⟨A, xs, c, ?_, h1, h2, h3, h5⟩
  simpa [Value.cells] using hcs
theorem sized_toks {ts : List TypeId} {ds : List (DataW H)} (h : (DataW.weightsEach Tryz.prog ts ds).all (· ≤ reachBytes) = true) {j : Nat} {xs : List Tk} (ht : ts[j]? = some 22)
    (hd : xs = [] ∨ ∃ sp, ds[j]? = some (.slice (xs.map tkData) sp)) : ∀ x ∈ xs, x.s.size ≤ 140737488351232 := by
  intro x hx
  rcases hd with rfl | ⟨sp, hd⟩
  · cases hx
  · have hw : ∀ n, n ∈ (tkData x : DataW H).weights Tryz.prog 28 → n ≤ reachBytes := fun n hn => by
      have := List.all_eq_true.1 h n (DataW.weights_mem_each ht hd n (slice_weights Tryz.underlying22 (List.mem_map_of_mem hx) hn))
      simpa using this
    have h1 := hw x.s.data.toList.length (by simp [tkData, DataW.weights, Tryz.underlying28, DataW.weightsEach])
    rw [← ByteArray.toList_eq, toList_len] at h1
    simp only [reachBytes] at h1
    exact h1
end
theorem toks_rec : Tryz.prog.readableRec 22 = true := by kernel_rfl
theorem toks_lt : 22 < Tryz.prog.types.size := of_decide_eq_true (by kernel_rfl)
end Go.Proofs.YtbommoefpekalaaGreatDoor
