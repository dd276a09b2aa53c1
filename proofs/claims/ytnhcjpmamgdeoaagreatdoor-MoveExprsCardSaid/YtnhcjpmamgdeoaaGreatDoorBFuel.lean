/-
  PLAIN: where an expression ends, without fuel.
-/
import Derived.Test.YtnhcjpmamgdeoaaGreatDoorP
namespace Go.Proofs.YtnhcjpmamgdeoaaGreatDoor
open Go.RowKit

def tagN : BTag → Nat
  | .one _ => 0
  | .more _ _ _ => 1
theorem bGo_fuel (e : List Nd) : ∀ (f : Nat) (t : BTag) (i j : Nat), bGo e f t i = some j → bGo e (2 * (j - i) + tagN t) t i = some j := by
  intro f
  induction f with
  | zero =>
    intro t i j h
    cases t with
    | one b => simp [bGo] at h
    | more c r l =>
      have hh := h
      simp only [bGo] at h
      split at h <;> simp at h
      subst h
      rename_i hc
      subst hc
      simp [tagN, bGo]
  | succ f ih =>
    intro t i j h
    have hb := bGo_bound e _ _ _ _ h
    cases t with
    | one b =>
      have hij := hb.2.2 b rfl
      rw [bGo] at h
      obtain ⟨F, hF⟩ : ∃ F, 2 * (j - i) + tagN (.one b) = F + 1 := ⟨2 * (j - i) - 1, by simp [tagN]; omega⟩
      rw [hF, bGo]
      simp only [tagN] at hF
      split at h
      · cases h
      · rename_i n hn
        rw [hn] at *
        split at h
        · cases h
        · rename_i hc
          rw [if_neg hc]
          have h2 := ih _ _ _ h
          simp only [tagN] at h2
          exact bGo_mono_le e (by omega) h2
    | more c r l =>
      cases c with
      | zero => simp only [bGo] at h; injection h with h; subst h; simp [tagN, bGo]
      | succ c =>
        rw [bGo] at h
        simp only [tagN]
        rw [bGo]
        split at h
        · cases h
        · rename_i m hm
          split at h
          · cases h
          · rename_i hc
            rw [if_neg hc]
            split at h
            · cases h
            · rename_i k hk
              obtain ⟨b1, b2, b3⟩ := bGo_bound e _ _ _ _ hk
              obtain ⟨_, b5, _⟩ := bGo_bound e _ _ _ _ h
              have hik := b3 r rfl
              have h1 := ih _ _ _ hk
              have h2 := ih _ _ _ h
              simp only [tagN] at h1 h2
              rw [bGo_mono_le e (show 2 * (k - i) + 0 ≤ 2 * (j - i) by omega) h1]
              exact bGo_mono_le e (by omega) h2
/-- Where it ends, if at all. -/
def bR (e : List Nd) (t : BTag) (i : Nat) : Option Nat := bGo e (2 * e.length + 1) t i
theorem bR_of {e : List Nd} {f : Nat} {t : BTag} {i j : Nat} (h : bGo e f t i = some j) (hi : i ≤ e.length) : bR e t i = some j := by
  have hj := (bGo_bound e _ _ _ _ h).1 hi
  refine bGo_mono_le e ?_ (bGo_fuel e _ _ _ _ h)
  cases t <;> simp only [tagN] <;> omega
theorem bR_stable {e : List Nd} {f : Nat} (hf : 2 * e.length + 1 ≤ f) (t : BTag) {i : Nat} (hi : i ≤ e.length) : bGo e f t i = bR e t i := by
  cases h : bGo e f t i with
  | some j => exact (bR_of h hi).symm
  | none =>
    cases h2 : bR e t i with
    | none => rfl
    | some j => rw [bGo_mono_le e hf h2] at h; cases h
theorem bR_one_len (e : List Nd) (b : Bool) {i : Nat} (hi : i ≤ e.length) : bGo e (2 * e.length) (.one b) i = bR e (.one b) i := by
  cases h2 : bR e (.one b) i with
  | none =>
    cases h : bGo e (2 * e.length) (.one b) i with
    | none => rfl
    | some j => rw [bR_of h hi] at h2; cases h2
  | some j =>
    have h3 := (bGo_bound e _ _ _ _ h2).1 hi
    have h4 := bGo_fuel e _ _ _ _ h2
    simp only [tagN] at h4
    exact bGo_mono_le e (by omega) h4
theorem bR_one (e : List Nd) (b : Bool) {i : Nat} {n : Nd} (hn : e[i]? = some n) : bR e (.one b) i = if shapedT n = false ∨ (n.op == 7) ≠ b then none else bR e (.more (ndParts n).toNat (n.op == 6) ⟨#[]⟩) (i + 1) := by
  have hi : i < e.length := (List.getElem?_eq_some_iff.1 hn).1
  rw [← bR_stable (show 2 * e.length + 1 ≤ 2 * e.length + 1 + 1 by omega) (.one b) (by omega)]
  rw [bGo, hn]; rfl
theorem bR_out (e : List Nd) (b : Bool) {i : Nat} (hi : e.length ≤ i) : bR e (.one b) i = none := by
  unfold bR; rw [bGo, List.getElem?_eq_none hi]
theorem bR_zero (e : List Nd) (r : Bool) (l : ByteArray) (i : Nat) : bR e (.more 0 r l) i = some i := by
  unfold bR; rw [bGo]
theorem bR_more (e : List Nd) (c : Nat) (r : Bool) (l : ByteArray) {i : Nat} {m : Nd} (hm : e[i]? = some m) :
    bR e (.more (c + 1) r l) i = if r = true ∧ sLate l m.s = true then none else match bR e (.one r) i with | none => none | some j => bR e (.more c r (if r = true then m.s else l)) j := by
  have hi : i < e.length := (List.getElem?_eq_some_iff.1 hm).1
  rw [← bR_stable (show 2 * e.length + 1 ≤ 2 * e.length + 1 + 1 by omega) (.more (c + 1) r l) (by omega)]
  rw [bGo, hm]; rfl
theorem bR_more_out (e : List Nd) (c : Nat) (r : Bool) (l : ByteArray) {i : Nat} (hi : e.length ≤ i) : bR e (.more (c + 1) r l) i = none := by
  unfold bR; rw [bGo, List.getElem?_eq_none hi]
/-- A field of a record. -/
theorem bR_fld (e : List Nd) {i : Nat} {m : Nd} (hm : e[i]? = some m) (h7 : m.op = 7) (hs : shapedT m = true) : bR e (.one true) i = bR e (.one false) (i + 1) := by
  rw [bR_one e true hm, if_neg (by simp [hs, h7]), show ndParts m = 1 from by simp [ndParts, h7], show (m.op == 6) = false from by simp [h7]]
  show bR e (.more (0 + 1) false ⟨#[]⟩) (i + 1) = _
  rcases Nat.lt_or_ge (i + 1) e.length with h | h
  · rw [bR_more e 0 false ⟨#[]⟩ (List.getElem?_eq_getElem h), if_neg (by simp)]
    cases bR e (.one false) (i + 1) with
    | none => rfl
    | some j => exact bR_zero _ _ _ _
  · rw [bR_more_out e 0 false ⟨#[]⟩ h, bR_out e false h]
theorem bR_step (e : List Nd) (c : Nat) (l : ByteArray) (j : Nat) : bR e (.more (c + 1) false l) j = match bR e (.one false) j with | none => none | some i => bR e (.more c false l) i := by
  rcases Nat.lt_or_ge j e.length with h | h
  · rw [bR_more e c false l (List.getElem?_eq_getElem h), if_neg (by simp)]; rfl
  · rw [bR_more_out e c false l h, bR_out e false h]
theorem bR_rec (e : List Nd) (c : Nat) (l : ByteArray) {j : Nat} {m : Nd} (hm : e[j]? = some m) (h7 : m.op = 7) (hs : shapedT m = true) (hl : sLate l m.s = false) :
    bR e (.more (c + 1) true l) j = match bR e (.one false) (j + 1) with | none => none | some i => bR e (.more c true m.s) i := by
  rw [bR_more e c true l hm, if_neg (by simp [hl]), bR_fld e hm h7 hs]; rfl
theorem bR_rec_no (e : List Nd) (c : Nat) (l : ByteArray) {j : Nat} {m : Nd} (hm : e[j]? = some m) (h : ¬ m.op = 7 ∨ shapedT m = false ∨ sLate l m.s = true) : bR e (.more (c + 1) true l) j = none := by
  rw [bR_more e c true l hm]
  by_cases hl : sLate l m.s = true
  · rw [if_pos ⟨rfl, hl⟩]
  · rw [if_neg (by simp [hl]), bR_one e true hm, if_pos (by
      rcases h with h | h | h
      · right; simpa using h
      · exact .inl h
      · exact absurd h hl)]
theorem bR_bound {e : List Nd} {t : BTag} {i j : Nat} (h : bR e t i = some j) : (i ≤ e.length → j ≤ e.length) ∧ i ≤ j := ⟨(bGo_bound e _ _ _ _ h).1, (bGo_bound e _ _ _ _ h).2.1⟩
theorem late_cmp : ∀ (a b : List UInt8), (Op.bytesLess b a || b == a) = decide (0 ≤ Lib.compareBytes a b)
  | [], [] => by simp [Lib.compareBytes]
  | [], _ :: _ => by simp [Op.bytesLess, Lib.compareBytes]
  | _ :: _, [] => by simp [Op.bytesLess, Lib.compareBytes]
  | x :: a, y :: b => by
    have ih := late_cmp a b
    unfold Op.bytesLess Lib.compareBytes
    by_cases h1 : x < y
    · have h2 : ¬ y < x := fun h => UInt8.lt_irrefl _ (UInt8.lt_trans h h1)
      have h3 : ¬ y = x := fun h => by subst h; exact UInt8.lt_irrefl _ h1
      simp [h1, h2, h3]
    · by_cases h2 : y < x
      · simp [h1, h2]
      · have h3 : x = y := UInt8.le_antisymm (UInt8.not_lt.1 h2) (UInt8.not_lt.1 h1)
        subst h3
        simp [h1]
        simpa using ih
theorem sLate_cmp (l s : ByteArray) : sLate l s = decide (0 ≤ Lib.compareBytes l.data.toList s.data.toList) := by
  unfold sLate
  rw [late_cmp, ByteArray.toList_eq, ByteArray.toList_eq]
end Go.Proofs.YtnhcjpmamgdeoaaGreatDoor
