/-
  ARGUMENTS that are lists of texts, opened.
-/
import Derived.Test.YtnhcjpmamgdeoaaDoorRowGA
import Derived.Test.YtnhcjpmamgdeoaaDoorBase
namespace Go.Proofs.YtnhcjpmamgdeoaaDoor
set_option maxRecDepth 100000
open Go.ChangeShapes Go.WideShapes Go.RowKit Go.Deep Go.Sort

def stC (l : List UInt8) : List Value := [encStr l]
theorem stC_ok : EncOk stC 1 := ⟨fun _ => rfl, by omega, fun x u hu => by
  simp only [stC, List.mem_cons, List.not_mem_nil, or_false] at hu
  subst hu; rfl⟩
theorem cells_str : Tryd.prog.cellsOf 9 = 1 := by kernel_rfl
section
variable {H : Type} {enc : TypeId × Value → H} {W : World}
theorem str_trod {base : Nat} {spare : Nat → Bool} {held : Bool} {n : Nat} {cs : List Value} {y : DataW H × List MemPlace} (h : DataW.trod enc Tryd.prog W base spare held n 9 cs = some y) :
    ∃ l : List UInt8, cs = stC l ∧ y.1 = .lit (.string l) ∧ True := by
  obtain ⟨a, q, r, _⟩ := DataW.trod_string Tryd.underlying9 h
  exact ⟨a.toList, by rw [q, stC, encStr_of], by rw [r, ByteArray.toList_eq], trivial⟩
/-- An argument that is a list of texts. -/
theorem open_strs {base : Nat} {v : Value} {d : DataW H} {p : List MemPlace} (hv : Value.okWide Tryd.prog W .any base 23 v) (h : DataW.Trod enc Tryd.prog W 0 (fun _ => true) true 23 v d p) :
    ∃ (A : Option Addr) (xs : List (List UInt8)) (c : Nat), v = .slice A xs.length c ∧ xs.length ≤ c ∧ c ≤ 9223372036854775807 ∧ StrSl W W.heap.size A xs ∧ (xs = [] ∨ ∃ sp, d = .slice (xs.map fun l => .lit (.string l)) sp) := by
  obtain ⟨a0, len, cap, rfl⟩ := okWide_slice Tryd.underlying23 hv
  obtain ⟨fuel, hf⟩ := h
  obtain ⟨A, xs, c, hcs, h1, h2, h3, _, h5⟩ := open_gen Tryd.underlying23 cells_str stC_ok (fun _ _ _ h => str_trod h) hf
  refine ⟨A, xs, c, by simpa [Value.cells] using hcs, h1, h2, fun hne => ?_, h5⟩
  obtain ⟨b, o, e, hb, hc⟩ := h3 hne
  refine ⟨b, o, e, hb, fun i l hl => ?_⟩
  have := hc i l hl 0 _ rfl
  rwa [Nat.mul_one, Nat.add_zero] at this
theorem sized_strs {ts : List TypeId} {ds : List (DataW H)} (h : (DataW.weightsEach Tryd.prog ts ds).all (· ≤ reachBytes) = true) {j : Nat} {xs : List (List UInt8)} (ht : ts[j]? = some 23)
    (hd : xs = [] ∨ ∃ sp, ds[j]? = some (.slice (xs.map fun l => .lit (.string l)) sp)) : ∀ l ∈ xs, l.length ≤ 140737488351232 := by
  intro l hl
  rcases hd with rfl | ⟨sp, hd⟩
  · cases hl
  · have hw : ∀ n, n ∈ (DataW.lit (H := H) (.string l)).weights Tryd.prog 9 → n ≤ reachBytes := fun n hn => by
      have hm : DataW.lit (H := H) (.string l) ∈ xs.map fun l => DataW.lit (H := H) (.string l) := List.mem_map.2 ⟨l, hl, rfl⟩
      have := List.all_eq_true.1 h n (DataW.weights_mem_each ht hd n (slice_weights Tryd.underlying23 hm hn))
      simpa using this
    have h1 := hw l.length (by simp [DataW.weights])
    simp only [reachBytes] at h1
    exact h1
end
theorem strs_rec : Tryd.prog.readableRec 23 = true := by kernel_rfl
theorem strs_lt : 23 < Tryd.prog.types.size := of_decide_eq_true (by kernel_rfl)
end Go.Proofs.YtnhcjpmamgdeoaaDoor
