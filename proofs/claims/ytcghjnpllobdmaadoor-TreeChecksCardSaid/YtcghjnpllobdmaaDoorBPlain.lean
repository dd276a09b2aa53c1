/-
  PLAIN WORDS: where an expression ends.
-/
import Derived.Test.YtcghjnpllobdmaaDoorTPlain
namespace Go.Proofs.YtcghjnpllobdmaaDoor
open Go.RowKit

/-- One expression (a Field or not); or so many parts, of a Rec behind the last name or not. -/
inductive BTag where
  | one (fld : Bool)
  | more (c : Nat) (isRec : Bool) (last : ByteArray)
def bGo (e : List Nd) : Nat → BTag → Nat → Option Nat
  | 0, .one _, _ => none
  | 0, .more c _ _, i => if c = 0 then some i else none
  | f + 1, .one fld, i =>
    match e[i]? with
    | none => none
    | some n => if shapedT n = false ∨ (n.op == 7) ≠ fld then none else bGo e f (.more (ndParts n).toNat (n.op == 6) ⟨#[]⟩) (i + 1)
  | f + 1, .more c r last, i =>
    match c with
    | 0 => some i
    | c + 1 =>
      match e[i]? with
      | none => none
      | some m =>
        if r = true ∧ sLate last m.s = true then none
        else
          match bGo e f (.one r) i with
          | none => none
          | some j => bGo e f (.more c r (if r = true then m.s else last)) j
def bVal (v : Option Nat) : Int :=
  match v with
  | none => -1
  | some j => j

theorem bGo_bound (e : List Nd) : ∀ (f : Nat) (t : BTag) (i j : Nat), bGo e f t i = some j → (i ≤ e.length → j ≤ e.length) ∧ i ≤ j ∧ (∀ b, t = .one b → i < j) := by
  intro f
  induction f with
  | zero =>
    intro t i j h
    cases t with
    | one b => simp [bGo] at h
    | more c r l => simp only [bGo] at h; split at h <;> simp at h; subst h; exact ⟨id, Nat.le_refl _, fun _ h => by cases h⟩
  | succ f ih =>
    intro t i j h
    cases t with
    | one b =>
      simp only [bGo] at h
      split at h
      · cases h
      · rename_i n hn
        have hi : i < e.length := (List.getElem?_eq_some_iff.1 hn).1
        split at h
        · cases h
        · obtain ⟨h1, h2, _⟩ := ih _ _ _ h; exact ⟨fun _ => h1 hi, by omega, fun _ _ => by omega⟩
    | more c r l =>
      cases c with
      | zero => simp only [bGo] at h; injection h with h; subst h; exact ⟨id, Nat.le_refl _, fun _ h => by cases h⟩
      | succ c =>
        simp only [bGo] at h
        split at h
        · cases h
        · rename_i n hn
          have hi : i < e.length := (List.getElem?_eq_some_iff.1 hn).1
          split at h
          · cases h
          · split at h
            · cases h
            · rename_i k hk
              obtain ⟨a1, a2, a3⟩ := ih _ _ _ hk
              obtain ⟨h1, h2, _⟩ := ih _ _ _ h; exact ⟨fun _ => h1 (a1 (by omega)), by omega, fun _ h => by cases h⟩
theorem shapedT_parts (x : Nd) (h : shapedT x = true) : 0 ≤ ndParts x := by
  unfold ndParts
  split
  · omega
  · split
    · rename_i h1 h2
      unfold shapedT at h
      rw [if_neg (by omega), if_pos h2] at h
      simp at h; omega
    · split
      · omega
      · split
        · omega
        · split
          · omega
          · rename_i h1 h2 h3 h4 h5
            unfold shapedT at h
            rw [if_neg (by omega), if_neg (by omega), if_neg (by omega), if_neg (by omega), if_neg (by omega)] at h
            unfold ndParts at h
            rw [if_neg (by omega), if_neg (by omega), if_neg (by omega), if_neg (by omega), if_neg (by omega)] at h
            simp at h
/-- What is wrong with an expression. -/
def treeErr (e : List Nd) : Int := if 200 < e.length then 4 else if bGo e (2 * e.length) (.one false) 0 = some e.length then 0 else 1
end Go.Proofs.YtcghjnpllobdmaaDoor
