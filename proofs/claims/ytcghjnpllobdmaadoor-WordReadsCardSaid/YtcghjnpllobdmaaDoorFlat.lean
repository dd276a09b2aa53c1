/-
  PLAIN WORDS: a slice of nodes, cell by cell; rows of nodes that a call makes.
-/
import Derived.Test.YtcghjnpllobdmaaDoorNodes
import Derived.Laws.OwnMore
namespace Go.Proofs.YtcghjnpllobdmaaDoor
open Go.RowKit

def flat (xs : List Nd) : List Value := xs.flatMap Nd.cells
theorem flat_len (xs : List Nd) : (flat xs).length = xs.length * 4 := by
  induction xs with
  | nil => rfl
  | cons x xs ih => simp only [flat, List.flatMap_cons, List.length_append, List.length_cons] at ih ⊢; rw [ih]; simp [Nd.cells]; omega
theorem flat_append (xs ys : List Nd) : flat (xs ++ ys) = flat xs ++ flat ys := by simp [flat]
theorem flat_one (x : Nd) : flat [x] = [.int .i64 x.op, .int .i64 x.n, .string x.s, .string x.t] := by simp [flat, Nd.cells]
theorem flat_get (xs : List Nd) : ∀ (i r : Nat), r < 4 → (flat xs)[i * 4 + r]? = (xs[i]?).bind fun x => x.cells[r]? := by
  induction xs with
  | nil => intro i r _; simp [flat]
  | cons x xs ih =>
    intro i r hr
    have hl : x.cells.length = 4 := rfl
    simp only [flat, List.flatMap_cons] at ih ⊢
    cases i with
    | zero => rw [List.getElem?_append_left (by omega)]; simp
    | succ i =>
      rw [List.getElem?_append_right (by omega), hl, show (i + 1) * 4 + r - 4 = i * 4 + r from by omega, ih i r hr]
      simp
theorem flat_one_cell (xs : List Nd) : ∀ u ∈ flat xs, u.oneCell' = true := by
  intro u hu
  simp only [flat, List.mem_flatMap] at hu
  obtain ⟨x, _, hx⟩ := hu
  simp only [Nd.cells, List.mem_cons, List.not_mem_nil, or_false] at hx
  rcases hx with rfl | rfl | rfl | rfl <;> rfl
theorem NdSl.flat {w : World} {B b o : Nat} {xs : List Nd} (h : NdSl w B (some ⟨b, o, none⟩) xs) (j : Nat) (u : Value) (hu : (Proofs.YtcghjnpllobdmaaDoor.flat xs)[j]? = some u) : w.cell? ((⟨b, o, none⟩ : Addr).add j) = some u := by
  have hne : xs ≠ [] := by rintro rfl; simp [Proofs.YtcghjnpllobdmaaDoor.flat] at hu
  obtain ⟨b', o', e, _, hc⟩ := h hne
  injection e with e; injection e with e1 e2; subst e1 e2
  have hadd : (⟨b, o, none⟩ : Addr).add j = ⟨b, o + j, none⟩ := by
    unfold Addr.add; split
    · subst_vars; rfl
    · rfl
  rw [hadd]
  obtain ⟨i, r, hr, rfl⟩ : ∃ i r, r < 4 ∧ j = i * 4 + r := ⟨j / 4, j % 4, by omega, by omega⟩
  rw [flat_get xs i r hr] at hu
  cases hx : xs[i]? with
  | none => rw [hx] at hu; cases hu
  | some x =>
    rw [hx] at hu
    have ha := hc i x hx
    match r, hr, hu with
    | 0, _, hu => simp [Nd.cells] at hu; subst hu; exact ha.c0
    | 1, _, hu => simp [Nd.cells] at hu; subst hu; rw [← Nat.add_assoc]; exact ha.c1
    | 2, _, hu => simp [Nd.cells] at hu; subst hu; rw [← Nat.add_assoc]; exact ha.c2
    | 3, _, hu => simp [Nd.cells] at hu; subst hu; rw [← Nat.add_assoc]; exact ha.c3
theorem NdSl.of_flat {w : World} {B g : Nat} {xs : List Nd} (hg : g < B) (h : ∀ j u, (Proofs.YtcghjnpllobdmaaDoor.flat xs)[j]? = some u → w.cell? ⟨g, j, none⟩ = some u) : NdSl w B (some ⟨g, 0, none⟩) xs := fun _ =>
  ⟨g, 0, rfl, hg, fun i x hx => by
    have hh : ∀ r u, r < 4 → x.cells[r]? = some u → w.cell? ⟨g, i * 4 + r, none⟩ = some u := fun r u hr hu => h _ _ (by rw [flat_get xs i r hr, hx]; exact hu)
    constructor
    · rw [Nat.zero_add]; exact hh 0 _ (by omega) rfl
    · rw [Nat.zero_add]; exact hh 1 _ (by omega) rfl
    · rw [Nat.zero_add]; exact hh 2 _ (by omega) rfl
    · rw [Nat.zero_add]; exact hh 3 _ (by omega) rfl⟩
theorem block_of_add (a : Addr) (n : Nat) : (a.add n).block = a.block := by unfold Addr.add; split <;> rfl
theorem NdSl.flat_alloc {w : World} {B b o : Nat} {xs : List Nd} (h : NdSl w B (some ⟨b, o, none⟩) xs) (hB : b < w.heap.size) (O : Obj) (j : Nat) (u : Value) (hu : (Proofs.YtcghjnpllobdmaaDoor.flat xs)[j]? = some u) : (w.alloc O).cell? ((⟨b, o, none⟩ : Addr).add j) = some u :=
  (World.cell?_alloc_lt w O _ (by rw [block_of_add]; exact hB)).trans (h.flat j u hu)
/-- A row of nodes of the call's own. -/
theorem own_nodes {w : World} {base : Nat} {e : TypeId} {v : Value} {n : Nat} {xs : List Nd} (h : w.ownsRow base e 4 v n (flat xs)) :
    n = xs.length ∧ ∃ A c, v = .slice A n c ∧ n ≤ c ∧ NdSl w w.heap.size A xs := by
  have hn : n = xs.length := by have := h.1; rw [flat_len] at this; omega
  refine ⟨hn, ?_⟩
  rcases h.2 with ⟨hv, h0⟩ | ⟨g, cap, cur, hv, hb, hg, hnc, hcm, hcs, htk⟩
  · subst h0
    have : xs = [] := List.eq_nil_of_length_eq_zero hn.symm
    subst this
    exact ⟨none, 0, hv, Nat.le_refl _, NdSl.nil _ _ _⟩
  · refine ⟨some ⟨g, 0, none⟩, cap, hv, hnc, NdSl.of_flat (Array.getElem?_eq_some_iff.1 hg).1 fun j u hu => ?_⟩
    have hj : j < n * 4 := by have := (List.getElem?_eq_some_iff.1 hu).1; rw [flat_len] at this; omega
    subst hv
    exact (h.cellAt j hj).trans hu

theorem own_form {w : World} {base : Nat} {e : TypeId} {v : Value} {n : Nat} {xs ys : List Nd} (h : w.ownsRow base e 4 v n (flat xs ++ flat ys)) :
    ∃ A c, v = .slice A n c ∧ n ≤ c ∧ c ≤ 9223372036854775807 ∧ NdSl w w.heap.size A (xs ++ ys) := by
  rw [← flat_append] at h
  obtain ⟨_, A, c, hv, hc, hs⟩ := own_nodes h
  refine ⟨A, c, hv, hc, ?_, hs⟩
  rcases h.2 with ⟨h1, h0⟩ | ⟨g, cap, cur, h1, _, _, _, hm, _⟩
  · rw [hv] at h1; injection h1 with _ _ h1; omega
  · rw [hv] at h1; injection h1 with _ _ h1; unfold maxLen at hm; omega

theorem new_flat (W : World) (t : TypeId) (x : Nd) (g : Nat) (hg : g = W.heap.size) (j : Nat) (u : Value) (hu : (flat [x])[j]? = some u) :
    (W.alloc (.cells #[.int .i64 x.op, .int .i64 x.n, .string x.s, .string x.t] t)).cell? ((⟨g, 0, none⟩ : Addr).add j) = some u := by
  subst hg
  have hadd : (⟨W.heap.size, 0, none⟩ : Addr).add j = ⟨W.heap.size, j, none⟩ := by
    unfold Addr.add; split
    · subst_vars; rfl
    · simp
  rw [hadd, World.cell?_alloc_new, ← hu, flat_one, List.getElem?_toArray]
end Go.Proofs.YtcghjnpllobdmaaDoor
