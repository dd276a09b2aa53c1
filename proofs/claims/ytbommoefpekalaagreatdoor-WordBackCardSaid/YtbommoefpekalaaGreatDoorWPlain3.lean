/-
  PLAIN LAWS: a number's leading zeros; the greatest sign that a text begins with.
-/
import Derived.Test.YtbommoefpekalaaGreatDoorWPlain2
namespace Go.Proofs.YtbommoefpekalaaGreatDoor
open Go.RowKit

theorem num_trim {D : List UInt8} {k : Nat} (hk : k < D.length) (hz : ∀ j, j < k → D[j]? = some 48) (he : k + 1 = D.length ∨ D[k]? ≠ some 48) :
    D.drop k = (if D.dropWhile (· == 48) = [] then [48] else D.dropWhile (· == 48)) ∧ (19 < D.length - k ↔ 19 < (D.dropWhile (· == 48)).length) := by
  have h1 : D.dropWhile (· == 48) = (D.drop k).dropWhile (· == 48) := by
    clear he
    induction k generalizing D with
    | zero => rfl
    | succ k ih =>
      cases D with
      | nil => simp at hk
      | cons d r =>
        have h0 := hz 0 (by omega)
        simp at h0
        subst h0
        rw [List.dropWhile_cons_of_pos (by simp), List.drop_succ_cons]
        exact ih (by simpa using hk) (fun j hj => by have := hz (j + 1) (by omega); simpa using this)
  have hd : D.drop k = D[k] :: D.drop (k + 1) := List.drop_eq_getElem_cons hk
  by_cases h48 : D[k] = 48
  · have hl : k + 1 = D.length := by
      rcases he with h | h
      · exact h
      · exact absurd (by rw [List.getElem?_eq_getElem hk, h48]) h
    have hn : D.drop (k + 1) = [] := List.drop_eq_nil_of_le (by omega)
    rw [h1, hd, hn, h48]
    refine ⟨by simp, ?_⟩
    simp
    omega
  · have h2 : (D.drop k).dropWhile (· == 48) = D.drop k := by rw [hd, List.dropWhile_cons_of_neg (by simpa using h48)]
    rw [h1, h2, if_neg (by rw [hd]; exact List.cons_ne_nil _ _)]
    exact ⟨rfl, by rw [List.length_drop]⟩

/-- The signs as the reference has them. -/
def sgR : List (List UInt8) := [[40], [41], [91], [93], [123], [125], [44], [58], [46], [58, 58], [61, 61], [60], [60, 61], [38, 38], [124, 124], [33], [43], [45], [42]]
def sgB (l : List UInt8) (f x : List UInt8) : List UInt8 := if x.isPrefixOf l = true ∧ f.length < x.length then x else f
theorem sgR_step {k : Nat} {x : List UInt8} (hx : sgR[k]? = some x) (l : List UInt8) : (sgR.take (k + 1)).foldl (sgB l) [] = sgB l ((sgR.take k).foldl (sgB l) []) x := by
  rw [List.take_add_one, hx, List.foldl_append]; rfl
theorem preA (x a : UInt8) (r : List UInt8) : List.isPrefixOf [x] (a :: r) = (x == a) := by simp [List.isPrefixOf]
theorem preB (x y a : UInt8) (r : List UInt8) : List.isPrefixOf [x, y] (a :: r) = (x == a && r.head? == some y) := by
  cases r with
  | nil => simp [List.isPrefixOf]
  | cons b r =>
    simp only [List.isPrefixOf, List.head?_cons, Bool.and_true, Option.some_beq_some]
    congr 1
    exact BEq.comm
theorem sgR_all (l : List UInt8) : sgR.foldl (sgB l) [] = signP l := by
  cases l with
  | nil => rfl
  | cons a r =>
    rw [signP_cons]
    by_cases h1 : sign1 a = true
    · rw [if_pos h1]
      unfold sign1 at h1
      simp only [Bool.or_eq_true, beq_iff_eq, or_assoc] at h1
      rcases h1 with rfl | rfl | rfl | rfl | rfl | rfl | rfl | rfl | rfl | rfl | rfl | rfl <;> simp [sgR, sgB, preA, preB]
    · rw [if_neg h1]
      by_cases h2 : a = 58
      · subst h2
        rw [if_pos rfl]
        cases hb : (r.head? == some 58) <;> simp only [sgR, sgB, List.foldl, preA, preB, hb] <;> simp at hb <;> simp [hb]
      · rw [if_neg h2]
        by_cases h3 : a = 60
        · subst h3
          rw [if_pos rfl]
          cases hb : (r.head? == some 61) <;> simp only [sgR, sgB, List.foldl, preA, preB, hb] <;> simp at hb <;> simp [hb]
        · rw [if_neg h3]
          unfold sign1 at h1
          simp only [Bool.or_eq_true, beq_iff_eq, not_or] at h1
          obtain ⟨⟨⟨⟨⟨⟨⟨⟨⟨⟨⟨n1, n2⟩, n3⟩, n4⟩, n5⟩, n6⟩, n7⟩, n8⟩, n9⟩, n10⟩, n11⟩, n12⟩ := h1
          have e : ∀ x : UInt8, a ≠ x → (x == a) = false := fun x h => by simpa using Ne.symm h
          by_cases h4 : a = 61
          · subst h4; cases hb : (r.head? == some 61) <;> simp only [sgR, sgB, List.foldl, preA, preB, hb] <;> simp at hb <;> simp [hb]
          · by_cases h5 : a = 38
            · subst h5; cases hb : (r.head? == some 38) <;> simp only [sgR, sgB, List.foldl, preA, preB, hb] <;> simp at hb <;> simp [hb]
            · by_cases h6 : a = 124
              · subst h6; cases hb : (r.head? == some 124) <;> simp only [sgR, sgB, List.foldl, preA, preB, hb] <;> simp at hb <;> simp [hb]
              · rw [if_neg (by rintro ⟨h | h | h, _⟩; exact h4 h; exact h5 h; exact h6 h)]
                simp [sgR, sgB, preA, preB, e _ n1, e _ n2, e _ n3, e _ n4, e _ n5, e _ n6, e _ n7, e _ n8, e _ n9, e _ n10, e _ n11, e _ n12, e _ h2, e _ h3, e _ h4, e _ h5, e _ h6]
end Go.Proofs.YtbommoefpekalaaGreatDoor
