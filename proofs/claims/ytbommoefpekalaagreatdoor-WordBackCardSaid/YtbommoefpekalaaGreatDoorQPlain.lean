/-
  PLAIN WORDS: what a text is between quotes.
-/
import Derived.Test.YtbommoefpekalaaGreatDoorStrs0
import Derived.Lib.Bytealg
namespace Go.Proofs.YtbommoefpekalaaGreatDoor
open Go.RowKit

def escB (b : UInt8) : Bool := b == 34 || b == 92
/-- The bytes that stand for one. -/
def esc1 (b : UInt8) : List UInt8 := if escB b then [92, b] else [b]
def escP (l : List UInt8) : List UInt8 := l.flatMap esc1
def escN (l : List UInt8) : Nat := l.countP escB
theorem escP_len (l : List UInt8) : (escP l).length = l.length + escN l := by
  induction l with
  | nil => rfl
  | cons b l ih =>
    simp only [escP, List.flatMap_cons, List.length_append, escN, List.countP_cons, List.length_cons] at ih ⊢
    rw [ih]
    unfold esc1
    cases h : escB b <;> simp <;> omega
theorem escP_snoc (l : List UInt8) (b : UInt8) : escP (l ++ [b]) = escP l ++ esc1 b := by simp [escP]
theorem escN_snoc (l : List UInt8) (b : UInt8) : escN (l ++ [b]) = escN l + if escB b then 1 else 0 := by
  simp [escN, List.countP_append, List.countP_cons]
theorem escN_zero (l : List UInt8) (h : escN l = 0) : escP l = l := by
  induction l with
  | nil => rfl
  | cons b l ih =>
    simp only [escN, List.countP_cons] at h ih
    have hb : escB b = false := by cases hq : escB b <;> simp [hq] at h ⊢
    show esc1 b ++ escP l = _
    rw [ih (by omega), esc1, if_neg (by simp [hb])]; rfl
theorem escN_count (l : List UInt8) : Lib.countByte l 34 + Lib.countByte l 92 = escN l := by
  unfold Lib.countByte escN
  induction l with
  | nil => rfl
  | cons b l ih =>
    simp only [List.count_cons, List.countP_cons, escB]
    by_cases h1 : b = 34
    · subst h1; simp; omega
    · by_cases h2 : b = 92
      · subst h2; simp; omega
      · simp [h1, h2]; exact ih
theorem escN_le (l : List UInt8) : escN l ≤ l.length := List.countP_le_length
theorem escB_yes (b : UInt8) : escB b = true ↔ (b.toNat = 34 ∨ b.toNat = 92) := by
  simp only [escB, Bool.or_eq_true, beq_iff_eq]
  constructor
  · rintro (h | h) <;> subst h <;> simp
  · rintro (h | h)
    · exact .inl (UInt8.toNat_inj.1 (by rw [h]; rfl))
    · exact .inr (UInt8.toNat_inj.1 (by rw [h]; rfl))
theorem escP_take (l : List UInt8) (k : Nat) : (escP (l.take k)).length ≤ l.length + escN l := by
  rw [← escP_len]
  have h : escP l = escP (l.take k) ++ escP (l.drop k) := by unfold escP; rw [← List.flatMap_append, List.take_append_drop]
  rw [h, List.length_append]; omega
/-- The bytes as cells. -/
def byC (l : List UInt8) : List Value := l.map fun b => .int .u8 (b.toNat : Int)
theorem byC_append (a b : List UInt8) : byC (a ++ b) = byC a ++ byC b := by simp [byC]
theorem byC_len (a : List UInt8) : (byC a).length = a.length := by simp [byC]
end Go.Proofs.YtbommoefpekalaaGreatDoor
