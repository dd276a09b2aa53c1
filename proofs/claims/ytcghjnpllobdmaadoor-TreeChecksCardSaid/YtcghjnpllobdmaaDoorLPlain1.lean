/-
  PLAIN LAWS for TreeSizes.
-/
import Derived.Test.YtcghjnpllobdmaaDoorPPlain
namespace Go.Proofs.YtcghjnpllobdmaaDoor
open Go.RowKit

/-- What End answers: the place, and the error. -/
def endV (e : List Nd) (i : Int) : Int × Int :=
  if treeErr e ≠ 0 then (0, treeErr e)
  else if i < 0 ∨ (e.length : Int) ≤ i then (0, 3)
  else match e[i.toNat]? with
    | none => (0, 3)
    | some x => if x.op = 7 then (0, 2) else (bVal (bGo e (2 * e.length) (.one false) i.toNat), 0)
theorem endV_at {e : List Nd} (h : treeErr e = 0) {k r f : Nat} (hb : bGo e f (.one false) k = some r) (hf : f ≤ 2 * e.length) : endV e k = ((r : Int), 0) := by
  have hkl : k < e.length := by
    rcases Nat.lt_or_ge k e.length with h | h
    · exact h
    · cases f <;> simp [bGo, List.getElem?_eq_none h] at hb
  have hx : e[k]? = some e[k] := List.getElem?_eq_getElem hkl
  have hp := bGo_parts hb hx
  have h7 : ¬ e[k].op = 7 := by have := hp.2.1; simpa using this
  have hb2 := bGo_mono_le e hf hb
  unfold endV
  rw [if_neg (by simp [h]), if_neg (by omega), show (k : Int).toNat = k from rfl, hx]
  simp only
  rw [if_neg h7, hb2]; rfl
theorem end_zero {e : List Nd} (h : treeErr e = 0) : endV e 0 = ((e.length : Int), 0) := by
  have h' := h
  unfold treeErr at h'
  split at h'
  · cases h'
  · split at h'
    · rename_i hb; exact endV_at h hb (Nat.le_refl _)
    · cases h'
theorem end_two {e : List Nd} (h : treeErr e = 0) {x : Nd} (hx : e[0]? = some x) (h2 : ndParts x = 2) (h6 : ¬ x.op = 6) : ∃ m : Nat, endV e 1 = ((m : Int), 0) ∧ endV e m = ((e.length : Int), 0) := by
  have h' := h
  unfold treeErr at h'
  split at h'
  · cases h'
  · split at h'
    · rename_i _ hb
      have hlen := (tree_len h).2
      obtain ⟨F, hF⟩ : ∃ F, 2 * e.length = F + 1 := ⟨2 * e.length - 1, by omega⟩
      rw [hF] at hb
      simp only [bGo, hx] at hb
      split at hb
      · cases hb
      · rw [h2, show (2 : Int).toNat = 1 + 1 from rfl, show (x.op == 6) = false from by simp [h6]] at hb
        cases F with
        | zero => simp [bGo] at hb
        | succ F =>
          simp only [bGo] at hb
          split at hb
          · cases hb
          · simp only [Bool.false_eq_true, false_and, if_false] at hb
            split at hb
            · cases hb
            · rename_i m hm
              cases F with
              | zero => simp [bGo] at hb
              | succ F =>
                simp only [bGo] at hb
                split at hb
                · cases hb
                · simp only [Bool.false_eq_true, false_and, if_false] at hb
                  split at hb
                  · cases hb
                  · rename_i m2 hm2
                    have : m2 = e.length := by cases F <;> simp [bGo] at hb <;> exact hb
                    subst this
                    exact ⟨m, endV_at h hm (by omega), endV_at h hm2 (by omega)⟩
    · cases h'
theorem put_ok {e v : List Nd} {s : ByteArray} (h : (putV e s v).2 = 0) : treeErr e = 0 ∧ treeErr v = 0 ∧ (putL e s v).length ≤ 200 ∧ (putV e s v).1 = putL e s v := by
  unfold putV at h ⊢
  split at h
  · simp at h; contradiction
  · split at h
    · simp at h; contradiction
    · split at h
      · simp at h
      · rename_i h1 h2 h3
        rw [if_neg h1, if_neg h2, if_neg h3]
        exact ⟨by simpa using h1, by simpa using h2, by omega, rfl⟩
theorem fact_sizes : putV [⟨14, 0, ⟨#[]⟩, ⟨#[]⟩⟩, ⟨8, 0, ⟨#[97]⟩, ⟨#[]⟩⟩, ⟨8, 0, ⟨#[97]⟩, ⟨#[]⟩⟩] ⟨#[97]⟩ [⟨9, 0, ⟨#[]⟩, ⟨#[]⟩⟩, ⟨8, 0, ⟨#[98]⟩, ⟨#[]⟩⟩] =
    ([⟨14, 0, ⟨#[]⟩, ⟨#[]⟩⟩, ⟨9, 0, ⟨#[]⟩, ⟨#[]⟩⟩, ⟨8, 0, ⟨#[98]⟩, ⟨#[]⟩⟩, ⟨9, 0, ⟨#[]⟩, ⟨#[]⟩⟩, ⟨8, 0, ⟨#[98]⟩, ⟨#[]⟩⟩], 0) := by
  simp [putV, putL, isVar, treeErr, bGo, shapedT, ndParts, variableB, nameErr, nameB, letterI, digitI, reserved, ByteArray.toList_mk]
end Go.Proofs.YtcghjnpllobdmaaDoor
