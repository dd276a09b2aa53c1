/-
  PLAIN: where a value ends, without fuel.
-/
import Derived.Test.YtnhcjpmamgdeoaaGreatDoorVxM
import Derived.Test.YtnhcjpmamgdeoaaGreatDoorBFuel
namespace Go.Proofs.YtnhcjpmamgdeoaaGreatDoor
open Go.RowKit

def vtagN : VTag → Nat
  | .one => 0
  | .set _ _ => 1
  | .flds _ _ => 1
theorem vGo_mono (e : List Nd) : ∀ (f : Nat) (t : VTag) (i j : Nat), vGo e f t i = some j → vGo e (f + 1) t i = some j := by
  intro f
  induction f with
  | zero =>
    intro t i j h
    cases t with
    | one => simp [vGo] at h
    | set c l => simp only [vGo] at h; split at h <;> simp at h; subst h; rename_i hc; subst hc; simp [vGo]
    | flds c l => simp only [vGo] at h; split at h <;> simp at h; subst h; rename_i hc; subst hc; simp [vGo]
  | succ f ih =>
    intro t i j h
    cases t with
    | one =>
      rw [vGo] at h ⊢
      cases hn : e[i]? with
      | none => rw [hn] at h; cases h
      | some n =>
        rw [hn] at h
        simp only at h ⊢
        split at h
        · cases h
        · rename_i hs
          rw [if_neg hs]
          split at h
          · rename_i h5; rw [if_pos h5]; exact ih _ _ _ h
          · rename_i h5
            rw [if_neg h5]
            split at h
            · rename_i h6; rw [if_pos h6]; exact ih _ _ _ h
            · rename_i h6
              rw [if_neg h6]
              exact h
    | set c l =>
      cases c with
      | zero => simp only [vGo] at h ⊢; exact h
      | succ c =>
        rw [vGo] at h ⊢
        try simp only at h ⊢
        cases hk : vGo e f .one i with
        | none => rw [hk] at h; cases h
        | some k =>
          rw [hk] at h
          rw [ih _ _ _ hk]
          simp only at h ⊢
          split at h
          · cases h
          · rename_i hl
            rw [if_neg hl]
            exact ih _ _ _ h
    | flds c l =>
      cases c with
      | zero => simp only [vGo] at h ⊢; exact h
      | succ c =>
        rw [vGo] at h ⊢
        try simp only at h ⊢
        cases hm : e[i]? with
        | none => rw [hm] at h; cases h
        | some m =>
          rw [hm] at h
          simp only at h ⊢
          split at h
          · cases h
          · rename_i hl
            rw [if_neg hl]
            cases hk : vGo e f .one (i + 1) with
            | none => rw [hk] at h; cases h
            | some k =>
              rw [hk] at h
              rw [ih _ _ _ hk]
              exact ih _ _ _ h
theorem vGo_mono_le (e : List Nd) {f f' : Nat} (hf : f ≤ f') {t : VTag} {i j : Nat} (h : vGo e f t i = some j) : vGo e f' t i = some j := by
  induction hf with
  | refl => exact h
  | step _ ih => exact vGo_mono e _ _ _ _ ih
theorem vGo_fuel (e : List Nd) : ∀ (f : Nat) (t : VTag) (i j : Nat), vGo e f t i = some j → vGo e (2 * (j - i) + vtagN t) t i = some j := by
  intro f
  induction f with
  | zero =>
    intro t i j h
    cases t with
    | one => simp [vGo] at h
    | set c l =>
      have hh := h
      simp only [vGo] at h
      split at h <;> simp at h
      subst h
      rename_i hc
      subst hc
      simp [vtagN, vGo]
    | flds c l =>
      have hh := h
      simp only [vGo] at h
      split at h <;> simp at h
      subst h
      rename_i hc
      subst hc
      simp [vtagN, vGo]
  | succ f ih =>
    intro t i j h
    have hb := vGo_bound e _ _ _ _ h
    cases t with
    | one =>
      have hij := hb.2.2 rfl
      rw [vGo] at h
      obtain ⟨F, hF⟩ : ∃ F, 2 * (j - i) + vtagN .one = F + 1 := ⟨2 * (j - i) - 1, by simp [vtagN]; omega⟩
      rw [hF, vGo]
      simp only [vtagN] at hF
      cases hn : e[i]? with
      | none => rw [hn] at h; cases h
      | some n =>
        rw [hn] at h
        simp only at h ⊢
        split at h
        · cases h
        · rename_i hs
          rw [if_neg hs]
          split at h
          · rename_i h5
            rw [if_pos h5]
            have h2 := ih _ _ _ h
            simp only [vtagN] at h2
            exact vGo_mono_le e (by omega) h2
          · rename_i h5
            rw [if_neg h5]
            split at h
            · rename_i h6
              rw [if_pos h6]
              have h2 := ih _ _ _ h
              simp only [vtagN] at h2
              exact vGo_mono_le e (by omega) h2
            · rename_i h6
              rw [if_neg h6]
              exact h
    | set c l =>
      cases c with
      | zero => simp only [vGo] at h; injection h with h; subst h; simp [vtagN, vGo]
      | succ c =>
        rw [vGo] at h
        simp only [vtagN]
        rw [vGo]
        try simp only at h ⊢
        cases hk : vGo e f .one i with
        | none => rw [hk] at h; cases h
        | some k =>
          rw [hk] at h
          simp only at h
          obtain ⟨b1, b2, b3⟩ := vGo_bound e _ _ _ _ hk
          have hik := b3 rfl
          have h1 := ih _ _ _ hk
          simp only [vtagN] at h1
          split at h
          · cases h
          · rename_i hl
            obtain ⟨_, b5, _⟩ := vGo_bound e _ _ _ _ h
            have h2 := ih _ _ _ h
            simp only [vtagN] at h2
            rw [vGo_mono_le e (show 2 * (k - i) + 0 ≤ 2 * (j - i) by omega) h1]
            simp only
            rw [if_neg hl]
            exact vGo_mono_le e (by omega) h2
    | flds c l =>
      cases c with
      | zero => simp only [vGo] at h; injection h with h; subst h; simp [vtagN, vGo]
      | succ c =>
        rw [vGo] at h
        simp only [vtagN]
        rw [vGo]
        try simp only at h ⊢
        cases hm : e[i]? with
        | none => rw [hm] at h; cases h
        | some m =>
          rw [hm] at h
          simp only at h ⊢
          split at h
          · cases h
          · rename_i hl
            rw [if_neg hl]
            cases hk : vGo e f .one (i + 1) with
            | none => rw [hk] at h; cases h
            | some k =>
              rw [hk] at h
              simp only at h
              obtain ⟨b1, b2, b3⟩ := vGo_bound e _ _ _ _ hk
              have hik := b3 rfl
              have h1 := ih _ _ _ hk
              simp only [vtagN] at h1
              obtain ⟨_, b5, _⟩ := vGo_bound e _ _ _ _ h
              have h2 := ih _ _ _ h
              simp only [vtagN] at h2
              rw [vGo_mono_le e (show 2 * (k - (i + 1)) + 0 ≤ 2 * (j - i) by omega) h1]
              exact vGo_mono_le e (by omega) h2
/-- Where it ends, if at all. -/
def vR (e : List Nd) (t : VTag) (i : Nat) : Option Nat := vGo e (2 * e.length + 1) t i
theorem vR_of {e : List Nd} {f : Nat} {t : VTag} {i j : Nat} (h : vGo e f t i = some j) (hi : i ≤ e.length) : vR e t i = some j := by
  have hj := (vGo_bound e _ _ _ _ h).1 hi
  refine vGo_mono_le e ?_ (vGo_fuel e _ _ _ _ h)
  cases t <;> simp only [vtagN] <;> omega
theorem vR_stable {e : List Nd} {f : Nat} (hf : 2 * e.length + 1 ≤ f) (t : VTag) {i : Nat} (hi : i ≤ e.length) : vGo e f t i = vR e t i := by
  cases h : vGo e f t i with
  | some j => exact (vR_of h hi).symm
  | none =>
    cases h2 : vR e t i with
    | none => rfl
    | some j => rw [vGo_mono_le e hf h2] at h; cases h
theorem vR_one_len (e : List Nd) {i : Nat} (hi : i ≤ e.length) : vGo e (2 * e.length) .one i = vR e .one i := by
  cases h2 : vR e .one i with
  | none =>
    cases h : vGo e (2 * e.length) .one i with
    | none => rfl
    | some j => rw [vR_of h hi] at h2; cases h2
  | some j =>
    have h3 := (vGo_bound e _ _ _ _ h2).1 hi
    have h4 := vGo_fuel e _ _ _ _ h2
    simp only [vtagN] at h4
    exact vGo_mono_le e (by omega) h4
theorem vR_one (e : List Nd) {i : Nat} {n : Nd} (hn : e[i]? = some n) : vR e .one i = if shapedV n = false then none else if n.op = 5 then vR e (.set n.n.toNat none) (i + 1) else if n.op = 6 then vR e (.flds n.n.toNat ⟨#[]⟩) (i + 1) else if n.op = 7 then none else some (i + 1) := by
  have hi : i < e.length := (List.getElem?_eq_some_iff.1 hn).1
  rw [← vR_stable (show 2 * e.length + 1 ≤ 2 * e.length + 1 + 1 by omega) .one (by omega)]
  rw [vGo, hn]; rfl
theorem vR_out (e : List Nd) {i : Nat} (hi : e.length ≤ i) : vR e .one i = none := by
  unfold vR; rw [vGo, List.getElem?_eq_none hi]
theorem vR_set0 (e : List Nd) (l : Option (List Nd)) (i : Nat) : vR e (.set 0 l) i = some i := by unfold vR; rw [vGo]
theorem vR_fld0 (e : List Nd) (l : ByteArray) (i : Nat) : vR e (.flds 0 l) i = some i := by unfold vR; rw [vGo]
theorem vR_set (e : List Nd) (c : Nat) (l : Option (List Nd)) {i : Nat} (hi : i ≤ e.length) : vR e (.set (c + 1) l) i = match vR e .one i with | none => none | some j => if vLate l (piece e i j) = true then none else vR e (.set c (some (piece e i j))) j := by
  rw [← vR_stable (show 2 * e.length + 1 ≤ 2 * e.length + 1 + 1 by omega) (.set (c + 1) l) hi]
  rw [vGo]; rfl
/-- A field, and its value. -/
def fR (e : List Nd) (i : Nat) : Option Nat := match e[i]? with
  | none => none
  | some m => if m.op = 7 ∧ shapedV m = true then vR e .one (i + 1) else none
theorem vR_flds (e : List Nd) (c : Nat) (l : ByteArray) {i : Nat} (hi : i ≤ e.length) : vR e (.flds (c + 1) l) i = match fR e i with
    | none => none
    | some j => if sLate l (headS (e.drop i)) = true then none else vR e (.flds c (headS (e.drop i))) j := by
  rw [← vR_stable (show 2 * e.length + 1 ≤ 2 * e.length + 1 + 1 by omega) (.flds (c + 1) l) hi]
  rw [vGo]
  unfold fR
  cases hm : e[i]? with
  | none => rfl
  | some m =>
    have hd : headS (e.drop i) = m.s := by
      unfold headS
      rw [List.head?_drop, hm]; rfl
    simp only [hd]
    by_cases h1 : m.op = 7 ∧ shapedV m = true
    · rw [if_pos h1]
      show _ = match vGo e (2 * e.length + 1) .one (i + 1) with | none => none | some j => _
      by_cases h2 : sLate l m.s = true
      · rw [if_pos (.inr (.inr h2))]
        cases vGo e (2 * e.length + 1) .one (i + 1) with
        | none => rfl
        | some j => simp only; rw [if_pos h2]
      · rw [if_neg (by rintro (h | h | h); exact h h1.1; rw [h1.2] at h; cases h; exact h2 h)]
        cases vGo e (2 * e.length + 1) .one (i + 1) with
        | none => rfl
        | some j => simp only; rw [if_neg h2]; rfl
    · rw [if_neg h1, if_pos]
      by_cases h7 : m.op = 7
      · right; left
        cases hs : shapedV m with
        | false => rfl
        | true => exact absurd ⟨h7, hs⟩ h1
      · exact .inl h7
theorem vR_bound {e : List Nd} {t : VTag} {i j : Nat} (h : vR e t i = some j) : (i ≤ e.length → j ≤ e.length) ∧ i ≤ j ∧ (t = .one → i < j) := vGo_bound e _ _ _ _ h
theorem fR_bound {e : List Nd} {i j : Nat} (h : fR e i = some j) : i < e.length ∧ j ≤ e.length ∧ i < j := by
  unfold fR at h
  cases hm : e[i]? with
  | none => rw [hm] at h; cases h
  | some m =>
    have hi := (List.getElem?_eq_some_iff.1 hm).1
    rw [hm] at h
    simp only at h
    split at h
    · have := vR_bound h
      exact ⟨hi, this.1 (by omega), by have := this.2.1; omega⟩
    · cases h
theorem fld_first {m : Nd} (h7 : m.op = 7) (hs : shapedV m = true) : sLate ⟨#[]⟩ m.s = false := by
  have := fld_name (shaped_tv hs) h7
  rw [late_lt, show (⟨#[]⟩ : ByteArray).toList = [] from by rw [ByteArray.toList_eq]]
  exact nm_ne this
theorem fR_first {e : List Nd} {i j : Nat} (h : fR e i = some j) : sLate ⟨#[]⟩ (headS (e.drop i)) = false := by
  unfold fR at h
  cases hm : e[i]? with
  | none => rw [hm] at h; cases h
  | some m =>
    rw [hm] at h
    simp only at h
    split at h
    · rename_i hc
      have hd : headS (e.drop i) = m.s := by unfold headS; rw [List.head?_drop, hm]; rfl
      rw [hd]
      exact fld_first hc.1 hc.2
    · cases h
theorem valErr_vR (e : List Nd) : valErr e = if 200 < e.length then 4 else if bVal (vR e .one 0) = (e.length : Int) then 0 else 1 := by
  unfold valErr
  rw [vR_one_len e (Nat.zero_le _)]
  split
  · rfl
  · cases h : vR e .one 0 with
    | none => rw [if_neg (by simp), if_neg (by show ¬ (-1 : Int) = _; omega)]
    | some j =>
      by_cases hj : j = e.length
      · rw [if_pos (by rw [hj]), if_pos (by rw [hj]; rfl)]
      · rw [if_neg (by simpa using hj), if_neg (by show ¬ (j : Int) = _; omega)]
/-- Where the reference says that it ends. -/
def veR (e : List Nd) (fld : Bool) (i : Nat) : Option Nat := if fld = true then fR e i else vR e .one i
end Go.Proofs.YtnhcjpmamgdeoaaGreatDoor
