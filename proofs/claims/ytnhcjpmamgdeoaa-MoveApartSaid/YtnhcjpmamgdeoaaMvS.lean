/-
  PLAIN WORDS: pieces in the order of their names; a name that stands there twice.
-/
import Derived.Test.YtnhcjpmamgdeoaaMvP
import Derived.Sort.Statements
import Derived.Shelf.SlSortCmp.Insertion
namespace Go.Proofs.Ytnhcjpmamgdeoaa
open Go.RowKit Go.Sort

theorem skP_at {b : Bool} {p : List Nd} (h : Ex (.one b) p) (rest : List Nd) (i : Nat) : skP (p ++ rest) 1 i = some (i + p.length) := by
  have hb := bGo_of_ex h (List.replicate i ⟨0, 0, ⟨#[]⟩, ⟨#[]⟩⟩) rest (2 * p.length) (by simp)
  have := skP_bGo _ _ _ _ _ hb 0 (Int.le_refl _)
  rw [List.append_assoc, List.drop_left, List.length_replicate] at this
  simp only [Int.add_zero] at this
  rw [this, skP_done]
theorem swo_names {α : Type} (nm : α → List UInt8) : SWO (ltOf fun x y : α => Lib.compareBytes (nm x) (nm y)) := by
  have hd : ∀ x y : α, ltOf (fun x y : α => Lib.compareBytes (nm x) (nm y)) x y = decide (nm x < nm y) := fun x y => by
    unfold ltOf
    simp only [cmp_neg]
  refine ⟨fun x => ?_, fun x y z h1 h2 => ?_, fun x y z h1 h2 => ?_⟩
  · rw [hd]; simp [List.lt_irrefl]
  · rw [hd] at h1 h2 ⊢
    simp only [decide_eq_true_eq] at h1 h2 ⊢
    exact List.lt_trans h1 h2
  · rw [hd] at h1 h2 ⊢
    simp only [decide_eq_false_iff_not, List.not_lt] at h1 h2 ⊢
    exact List.le_trans h2 h1
/-- In the order of their names. -/
def RiseN (ds : List (List Nd)) : Prop := ∀ (i j : Nat) (a b : List Nd), ds[i]? = some a → ds[j]? = some b → i < j → ¬ (headS b).toList < (headS a).toList
theorem rise_pw {ds : List (List Nd)} (hs : RiseN ds) (ha : ∀ (j : Nat) (a b : List Nd), ds[j]? = some a → ds[j + 1]? = some b → (headS b).toList ≠ (headS a).toList) : (namesOf ds).Pairwise (· < ·) := by
  rw [List.pairwise_iff_getElem]
  intro i j hi hj hij
  unfold namesOf at hi hj ⊢
  rw [List.length_map] at hi hj
  rw [List.getElem_map, List.getElem_map]
  obtain ⟨k, rfl⟩ : ∃ k, j = k + 1 := ⟨j - 1, by omega⟩
  have e1 : ds[k]? = some ds[k] := List.getElem?_eq_getElem (by omega)
  have e2 : ds[k + 1]? = some ds[k + 1] := List.getElem?_eq_getElem hj
  have h1 := List.not_lt.1 (hs k (k + 1) _ _ e1 e2 (by omega))
  have h2 : (headS ds[k]).toList < (headS ds[k + 1]).toList := by
    rcases le_cases h1 with h | h
    · exact h
    · exact absurd h.symm (ha k _ _ e1 e2)
  rcases Nat.lt_or_ge i k with h | h
  · have e3 : ds[i]? = some ds[i] := List.getElem?_eq_getElem hi
    rcases le_cases (List.not_lt.1 (hs i k _ _ e3 e1 h)) with h3 | h3
    · exact List.lt_trans h3 h2
    · rw [h3]; exact h2
  · obtain rfl : i = k := by omega
    exact h2
theorem pw_nodup {ds : List (List Nd)} (h : (namesOf ds).Pairwise (· < ·)) : (namesOf ds).Nodup := h.imp fun h e => by rw [e] at h; exact List.lt_irrefl _ h
theorem rise_done {ds qs : List (List Nd)} (hp : ds.Perm qs) (hs : RiseN ds) (ha : ∀ (j : Nat) (a b : List Nd), ds[j]? = some a → ds[j + 1]? = some b → (headS b).toList ≠ (headS a).toList) : (namesOf qs).Nodup ∧ ds = sortN qs := by
  have h1 := rise_pw hs ha
  have h2 : (namesOf qs).Nodup := (hp.map _).nodup_iff.1 (pw_nodup h1)
  exact ⟨h2, rise_eq h1 (sortN_pw h2) (hp.trans (sortN_perm qs).symm)⟩
theorem rise_twice {ds qs : List (List Nd)} (hp : ds.Perm qs) {j : Nat} {a b : List Nd} (h1 : ds[j]? = some a) (h2 : ds[j + 1]? = some b) (he : (headS b).toList = (headS a).toList) : ¬ (namesOf qs).Nodup := by
  intro h
  have h' : (namesOf ds).Nodup := (hp.map _).nodup_iff.2 h
  unfold namesOf at h'
  rw [List.Nodup, List.pairwise_iff_getElem] at h'
  obtain ⟨k1, e1⟩ := List.getElem?_eq_some_iff.1 h1
  obtain ⟨k2, e2⟩ := List.getElem?_eq_some_iff.1 h2
  refine h' j (j + 1) (by simpa using k1) (by simpa using k2) (by omega) ?_
  rw [List.getElem_map, List.getElem_map, e1, e2, he]
end Go.Proofs.Ytnhcjpmamgdeoaa
