/-
  PLAIN WORDS: the spelling of words.
-/
import Derived.Test.YtbommoefpekalaaGreatDoorWPlain2
import Derived.Test.YtbommoefpekalaaGreatDoorQPlain
import Derived.Lib.Join
namespace Go.Proofs.YtbommoefpekalaaGreatDoor
open Go.RowKit

/-- A text between quotes; nothing, where it is no text. -/
def quoteV (l : List UInt8) : List UInt8 := if textErr l = 0 then 34 :: (escP l ++ [34]) else []
def tkEq (x y : Tk) : Bool := x.kind == y.kind && (x.s.toList == y.s.toList && x.at_ == y.at_)
/-- A word's text, before it is held against what is read of it. -/
def speltT (x : Tk) : List UInt8 := if x.kind = 3 then quoteV x.s.toList else if x.kind = 4 then 63 :: x.s.toList else x.s.toList
/-- A word's text; is it one that is read? -/
def speltP (x : Tk) : List UInt8 × Bool :=
  if x.kind = 3 ∧ textErr x.s.toList ≠ 0 then ([], false)
  else match readP (bsOf (speltT x)) with
    | ([t], _, k) => if k = 0 then (speltT x, tkEq t ⟨x.kind, x.s, 0⟩) else ([], false)
    | _ => ([], false)
/-- Texts with a blank between. -/
def joinP (ls : List (List UInt8)) : List UInt8 := Lib.join ls [32]
theorem joinP_nil : joinP [] = [] := rfl
theorem joinP_one (x : List UInt8) : joinP [x] = x := Lib.join_one _ _
theorem joinP_cons (x y : List UInt8) (r : List (List UInt8)) : joinP (x :: y :: r) = x ++ 32 :: joinP (y :: r) := by
  unfold joinP
  rw [Lib.join_cons, Lib.join_cons]
  simp [Lib.joinTail]
theorem joinP_len (m : Nat) : ∀ ls : List (List UInt8), (∀ l ∈ ls, l.length ≤ m) → (joinP ls).length ≤ ls.length * (m + 1)
  | [], _ => by simp [joinP_nil]
  | [x], h => by rw [joinP_one]; have := h x (by simp); simp; omega
  | x :: y :: r, h => by
    rw [joinP_cons]
    have h1 := h x (by simp)
    have h2 := joinP_len m (y :: r) (fun l hl => h l (List.mem_cons_of_mem _ hl))
    simp only [List.length_append, List.length_cons] at h2 ⊢
    rw [Nat.add_mul (r.length + 1) 1]
    omega
def spellP (xs : List Tk) : List UInt8 × Int :=
  if 300 < xs.length then ([], 4)
  else if xs.all (fun x => (speltP x).2) = false then ([], 1)
  else if 900 < (joinP (xs.map fun x => (speltP x).1)).length then ([], 4)
  else (joinP (xs.map fun x => (speltP x).1), 0)
theorem escP_bound (l : List UInt8) : (escP l).length ≤ 2 * l.length := by have := escP_len l; have := escN_le l; omega
theorem quoteV_len (l : List UInt8) : (quoteV l).length ≤ 122 := by
  unfold quoteV
  split
  · rename_i h
    unfold textErr at h
    split at h
    · cases h
    · have := escP_bound l
      simp only [List.length_cons, List.length_append, List.length_nil]; omega
  · simp
theorem speltP_len (x : Tk) : (speltP x).1.length ≤ 900 := by
  unfold speltP
  split
  · simp
  · split
    · rename_i t a k hq
      split
      · rename_i hk
        subst hk
        rw [readP_R] at hq
        split at hq
        · injection hq with h1 h2; cases h1
        · rename_i h9
          rw [show (bsOf (speltT x)).size = (speltT x).length by show (speltT x).toArray.size = _; simp] at h9
          show (speltT x).length ≤ 900
          omega
      · simp
    · simp
end Go.Proofs.YtbommoefpekalaaGreatDoor
