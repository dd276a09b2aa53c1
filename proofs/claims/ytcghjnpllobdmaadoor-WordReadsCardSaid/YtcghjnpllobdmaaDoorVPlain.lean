/-
  PLAIN WORDS: values: what the reader of nodes does, in lists.
-/
import Derived.Test.YtcghjnpllobdmaaDoorNodes
namespace Go.Proofs.YtcghjnpllobdmaaDoor
open Go.RowKit

/-- What is to be read: one part; so many parts of a set behind the last one; so many fields of a record behind the last name. -/
inductive VTag where
  | one
  | set (c : Nat) (last : Option (List Nd))
  | flds (c : Nat) (last : ByteArray)
/-- Does a part not stand behind the last one? -/
def vLate (last : Option (List Nd)) (p : List Nd) : Bool :=
  match last with
  | none => false
  | some l => decide (0 ≤ ndsCmp l p)
/-- Is a name not behind the last one? -/
def sLate (last s : ByteArray) : Bool := Op.bytesLess s.toList last.toList || s.toList == last.toList
def piece (e : List Nd) (i j : Nat) : List Nd := (e.drop i).take (j - i)
theorem piece_len {e : List Nd} {i j : Nat} (hj : j ≤ e.length) : (piece e i j).length = j - i := by
  unfold piece; rw [List.length_take, List.length_drop]; omega
theorem piece_le (e : List Nd) (i j : Nat) : (piece e i j).length ≤ e.length := by
  unfold piece; rw [List.length_take, List.length_drop]; omega
/-- The place behind what begins at one. -/
def vGo (e : List Nd) : Nat → VTag → Nat → Option Nat
  | 0, .one, _ => none
  | 0, .set c _, i => if c = 0 then some i else none
  | 0, .flds c _, i => if c = 0 then some i else none
  | f + 1, .one, i =>
    match e[i]? with
    | none => none
    | some n =>
      if shapedV n = false then none
      else if n.op = 5 then vGo e f (.set n.n.toNat none) (i + 1)
      else if n.op = 6 then vGo e f (.flds n.n.toNat ⟨#[]⟩) (i + 1)
      else if n.op = 7 then none
      else some (i + 1)
  | f + 1, .set c last, i =>
    match c with
    | 0 => some i
    | c + 1 =>
      match vGo e f .one i with
      | none => none
      | some j => if vLate last (piece e i j) = true then none else vGo e f (.set c (some (piece e i j))) j
  | f + 1, .flds c last, i =>
    match c with
    | 0 => some i
    | c + 1 =>
      match e[i]? with
      | none => none
      | some m =>
        if m.op ≠ 7 ∨ shapedV m = false ∨ sLate last m.s = true then none
        else
          match vGo e f .one (i + 1) with
          | none => none
          | some j => vGo e f (.flds c m.s) j

theorem vGo_bound (e : List Nd) : ∀ (f : Nat) (t : VTag) (i j : Nat), vGo e f t i = some j → (i ≤ e.length → j ≤ e.length) ∧ i ≤ j ∧ (t = .one → i < j) := by
  intro f
  induction f with
  | zero =>
    intro t i j h
    cases t with
    | one => simp [vGo] at h
    | set c l => simp only [vGo] at h; split at h <;> simp at h; subst h; exact ⟨id, Nat.le_refl _, fun h => by cases h⟩
    | flds c l => simp only [vGo] at h; split at h <;> simp at h; subst h; exact ⟨id, Nat.le_refl _, fun h => by cases h⟩
  | succ f ih =>
    intro t i j h
    cases t with
    | one =>
      simp only [vGo] at h
      split at h
      · cases h
      · rename_i n hn
        have hi : i < e.length := (List.getElem?_eq_some_iff.1 hn).1
        split at h
        · cases h
        · split at h
          · obtain ⟨h1, h2, _⟩ := ih _ _ _ h; exact ⟨fun _ => h1 hi, by omega, fun _ => by omega⟩
          · split at h
            · obtain ⟨h1, h2, _⟩ := ih _ _ _ h; exact ⟨fun _ => h1 hi, by omega, fun _ => by omega⟩
            · split at h
              · cases h
              · injection h with h; subst h; exact ⟨fun _ => hi, by omega, fun _ => by omega⟩
    | set c l =>
      cases c with
      | zero => simp only [vGo] at h; injection h with h; subst h; exact ⟨id, Nat.le_refl _, fun h => by cases h⟩
      | succ c =>
        simp only [vGo] at h
        split at h
        · cases h
        · rename_i k hk
          obtain ⟨a1, a2, a3⟩ := ih _ _ _ hk
          split at h
          · cases h
          · obtain ⟨h1, h2, _⟩ := ih _ _ _ h; exact ⟨fun q => h1 (a1 q), by omega, fun h => by cases h⟩
    | flds c l =>
      cases c with
      | zero => simp only [vGo] at h; injection h with h; subst h; exact ⟨id, Nat.le_refl _, fun h => by cases h⟩
      | succ c =>
        simp only [vGo] at h
        split at h
        · cases h
        · rename_i n hn
          have hi : i < e.length := (List.getElem?_eq_some_iff.1 hn).1
          split at h
          · cases h
          · split at h
            · cases h
            · rename_i k hk
              obtain ⟨a1, a2, a3⟩ := ih _ _ _ hk
              obtain ⟨h1, h2, _⟩ := ih _ _ _ h; exact ⟨fun _ => h1 (a1 hi), by omega, fun h => by cases h⟩
end Go.Proofs.YtcghjnpllobdmaaDoor
