/-
  PLAIN LAWS: the strings of an expression are short.
-/
import Derived.Test.YtnhcjpmamgdeoaaDoorP
namespace Go.Proofs.YtnhcjpmamgdeoaaDoor
open Go.RowKit

theorem one_valM {x : Nd} (h : x.op = 1 ∨ x.op = 2 ∨ x.op = 3 ∨ x.op = 4) : (valErr [x] == 0) = shapedV x := by
  have h5 : ¬ x.op = 5 := by omega
  have h6 : ¬ x.op = 6 := by omega
  have h7 : ¬ x.op = 7 := by omega
  cases hs : shapedV x <;> simp [valErr, vGo, hs, h5, h6, h7]
theorem shaped_low {x : Nd} (h : x.op = 1 ∨ x.op = 2 ∨ x.op = 3 ∨ x.op = 4) : shapedT x = shapedV x := by
  unfold shapedT; rw [if_pos h, one_valM h]
theorem name_le {l : List UInt8} (h : nameErr l = 0) : l.length ≤ 20 := by
  cases l with
  | nil => simp
  | cons a r =>
    have e : nameErr (a :: r) = if letterI (a.toNat : Int) = false then 1 else if (a :: r).all nameB = false then 1 else if 20 < (a :: r).length then 4 else 0 := rfl
    rw [e] at h
    split at h
    · cases h
    · split at h
      · cases h
      · split at h
        · cases h
        · omega
theorem text_le {l : List UInt8} (h : textErr l = 0) : l.length ≤ 60 := by
  unfold textErr at h
  split at h
  · cases h
  · omega
theorem var_le {l : List UInt8} (h : variableB l = true) : l.length ≤ 21 := by
  cases l with
  | nil => simp
  | cons a r =>
    have e : variableB (a :: r) = if a = 63 then nameErr r == 0 else nameErr (a :: r) == 0 && !reserved (a :: r) := rfl
    rw [e] at h
    split at h
    · have := name_le (by simpa using h); simp; omega
    · simp only [Bool.and_eq_true, beq_iff_eq] at h
      have := name_le h.1; omega
theorem emp_le {s : ByteArray} (h : s.toList.isEmpty = true) : s.size = 0 := by
  rw [← toList_len, List.isEmpty_iff.1 h]; rfl
theorem shaped_le {x : Nd} (h : shapedT x = true) : x.s.size ≤ 60 ∧ x.t.size ≤ 60 := by
  rw [← toList_len x.s, ← toList_len x.t]
  by_cases h4 : x.op = 1 ∨ x.op = 2 ∨ x.op = 3 ∨ x.op = 4
  · rw [shaped_low h4] at h
    unfold shapedV at h
    rcases h4 with e | e | e | e <;> rw [e] at h <;> simp [-List.length_eq_zero_iff] at h
    · rw [h.1.2, h.2]; simp
    · rw [h.1, h.2]; simp
    · rw [h.1.2]; exact ⟨text_le h.2, by simp⟩
    · exact ⟨Nat.le_trans (name_le h.1.2) (by omega), text_le h.2⟩
  unfold shapedT at h
  rw [if_neg h4] at h
  split at h
  · simp at h; rw [h.1.2, h.2]; simp
  split at h
  · simp at h; rw [h.1.2]; exact ⟨Nat.le_trans (var_le h.2) (by omega), by simp⟩
  split at h
  · simp at h; rw [h.1.2]; exact ⟨Nat.le_trans (name_le h.2) (by omega), by simp⟩
  split at h
  · simp at h; rw [h.1.2]; exact ⟨text_le h.2, by simp⟩
  · simp at h; rw [h.1.2, h.2]; simp
theorem ex_shaped {t : BTag} {xs : List Nd} (h : Ex t xs) : ∀ n ∈ xs, shapedT n = true := by
  induction h with
  | one n body fld hs _ _ ih =>
    intro m hm
    rcases List.mem_cons.1 hm with rfl | hm
    · exact hs
    · exact ih m hm
  | nil => simp
  | cons c r l m xs ys _ _ _ ih1 ih2 =>
    intro n hn
    rcases List.mem_append.1 hn with hn | hn
    · exact ih1 n hn
    · exact ih2 n hn
/-- The strings of an expression are short. -/
theorem tree_ok {e : List Nd} (h : treeErr e = 0) : NdOk e := fun x hx => by
  obtain ⟨h1, h2⟩ := shaped_le (ex_shaped ((tree_iff _).1 h).2 x hx)
  exact ⟨by omega, by omega⟩
end Go.Proofs.YtnhcjpmamgdeoaaDoor
