/-
  PLAIN WORDS: what Skip computes is where the expression ends; of a whole expression each node begins one.
-/
import Derived.Test.YtcghjnpllobdmaaDoorBPlain
namespace Go.Proofs.YtcghjnpllobdmaaDoor
open Go.RowKit

/-- Skip: so many are left; the place. -/
def skP : List Nd → Int → Nat → Option Nat
  | [], left, i => if left ≤ 0 then some i else none
  | n :: l, left, i => if left ≤ 0 then some i else skP l (left + ndParts n - 1) (i + 1)
theorem skP_done (l : List Nd) (i : Nat) : skP l 0 i = some i := by cases l <;> simp [skP]
theorem skP_step {e : List Nd} {i : Nat} {n : Nd} (hn : e[i]? = some n) {left : Int} (h : 0 < left) : skP (e.drop i) left i = skP (e.drop (i + 1)) (left + ndParts n - 1) (i + 1) := by
  have hi : i < e.length := (List.getElem?_eq_some_iff.1 hn).1
  rw [List.drop_eq_getElem_cons hi]
  rw [List.getElem?_eq_getElem hi] at hn
  injection hn with hn
  rw [hn, skP, if_neg (by omega)]

theorem bGo_mono (e : List Nd) : ∀ (f : Nat) (t : BTag) (i j : Nat), bGo e f t i = some j → bGo e (f + 1) t i = some j := by
  intro f
  induction f with
  | zero =>
    intro t i j h
    cases t with
    | one b => simp [bGo] at h
    | more c r l => simp only [bGo] at h; split at h <;> simp at h; subst h; rename_i hc; subst hc; simp [bGo]
  | succ f ih =>
    intro t i j h
    cases t with
    | one b =>
      rw [bGo] at h ⊢
      split at h
      · cases h
      · rename_i n hn
        split at h
        · cases h
        · rename_i hc; rw [if_neg hc]; exact ih _ _ _ h
    | more c r l =>
      cases c with
      | zero => simp only [bGo] at h ⊢; exact h
      | succ c =>
        rw [bGo] at h ⊢
        split at h
        · cases h
        · rename_i n hn
          split at h
          · cases h
          · rename_i hc
            rw [if_neg hc]
            split at h
            · cases h
            · rename_i k hk
              rw [ih _ _ _ hk]
              exact ih _ _ _ h
theorem bGo_mono_le (e : List Nd) {f f' : Nat} (hf : f ≤ f') {t : BTag} {i j : Nat} (h : bGo e f t i = some j) : bGo e f' t i = some j := by
  induction f' with
  | zero => obtain rfl : f = 0 := by omega
            exact h
  | succ f' ih =>
    rcases Nat.lt_or_ge f' f with h1 | h1
    · obtain rfl : f = f' + 1 := by omega
      exact h
    · exact bGo_mono e f' t i j (ih h1)

/-- What Skip does with what is an expression. -/
theorem skP_bGo (e : List Nd) : ∀ (f : Nat) (t : BTag) (i j : Nat), bGo e f t i = some j → ∀ k : Int, 0 ≤ k →
    skP (e.drop i) ((match t with | .one _ => 1 | .more c _ _ => (c : Int)) + k) i = skP (e.drop j) k j := by
  intro f
  induction f with
  | zero =>
    intro t i j h k hk
    cases t with
    | one b => simp [bGo] at h
    | more c r l => simp only [bGo] at h; split at h <;> simp at h; subst h; rename_i hc; subst hc; simp
  | succ f ih =>
    intro t i j h k hk
    cases t with
    | one b =>
      rw [bGo] at h
      split at h
      · cases h
      · rename_i n hn
        split at h
        · cases h
        · rename_i hc
          have hp := shapedT_parts n (by simpa using (not_or.1 hc).1)
          rw [skP_step hn (by simp only; omega)]
          have := ih _ _ _ h k hk
          simp only at this ⊢
          rw [show ((ndParts n).toNat : Int) = ndParts n from Int.toNat_of_nonneg hp] at this
          rw [show (1 : Int) + k + ndParts n - 1 = ndParts n + k from by omega]
          exact this
    | more c r l =>
      cases c with
      | zero => simp only [bGo] at h; injection h with h; subst h; simp
      | succ c =>
        rw [bGo] at h
        split at h
        · cases h
        · split at h
          · cases h
          · split at h
            · cases h
            · rename_i m hm
              have h1 := ih _ _ _ hm ((c : Int) + k) (by omega)
              have h2 := ih _ _ _ h k hk
              simp only at h1 h2 ⊢
              rw [show ((c + 1 : Nat) : Int) + k = 1 + ((c : Int) + k) from by omega, h1]
              exact h2

/-- Within an expression each node begins one, that ends within it. -/
theorem bGo_sub (e : List Nd) : ∀ (f : Nat) (t : BTag) (i j : Nat), bGo e f t i = some j → ∀ k x, i ≤ k → k < j → e[k]? = some x →
    ∃ f' r, f' ≤ f ∧ bGo e f' (.one (x.op == 7)) k = some r ∧ r ≤ j := by
  intro f
  induction f with
  | zero =>
    intro t i j h k x h1 h2 _
    cases t with
    | one b => simp [bGo] at h
    | more c r l => simp only [bGo] at h; split at h <;> simp at h; omega
  | succ f ih =>
    intro t i j h k x h1 h2 hx
    cases t with
    | one b =>
      have h0 := h
      rw [bGo] at h
      split at h
      · cases h
      · rename_i n hn
        split at h
        · cases h
        · rename_i hc
          rcases Nat.lt_or_ge i k with hik | hik
          · obtain ⟨f', r, q1, q2, q3⟩ := ih _ _ _ h k x (by omega) h2 hx
            exact ⟨f', r, by omega, q2, q3⟩
          · obtain rfl : i = k := by omega
            rw [hn] at hx
            injection hx with hx
            subst hx
            have : (n.op == 7) = b := by simpa using (not_or.1 hc).2
            rw [this]
            exact ⟨f + 1, j, Nat.le_refl _, h0, Nat.le_refl _⟩
    | more c r l =>
      cases c with
      | zero => simp only [bGo] at h; injection h with h; omega
      | succ c =>
        rw [bGo] at h
        split at h
        · cases h
        · split at h
          · cases h
          · split at h
            · cases h
            · rename_i m hm
              rcases Nat.lt_or_ge k m with hkm | hkm
              · obtain ⟨f', s, q1, q2, q3⟩ := ih _ _ _ hm k x h1 hkm hx
                have := (bGo_bound e _ _ _ _ h).2.1
                exact ⟨f', s, by omega, q2, by omega⟩
              · obtain ⟨f', s, q1, q2, q3⟩ := ih _ _ _ h k x hkm h2 hx
                exact ⟨f', s, by omega, q2, q3⟩
/-- So many parts need so many nodes. -/
theorem bGo_count (e : List Nd) : ∀ (f c : Nat) (r : Bool) (l : ByteArray) (i j : Nat), bGo e f (.more c r l) i = some j → i + c ≤ j := by
  intro f
  induction f with
  | zero => intro c r l i j h; simp only [bGo] at h; split at h <;> simp at h; omega
  | succ f ih =>
    intro c r l i j h
    cases c with
    | zero => simp only [bGo] at h; injection h with h; omega
    | succ c =>
      rw [bGo] at h
      split at h
      · cases h
      · split at h
        · cases h
        · split at h
          · cases h
          · rename_i m hm
            have h1 := (bGo_bound e _ _ _ _ hm).2.2 _ rfl
            have h2 := ih _ _ _ _ _ h
            omega
theorem bGo_parts {e : List Nd} {f i j : Nat} {b : Bool} {x : Nd} (h : bGo e f (.one b) i = some j) (hx : e[i]? = some x) : shapedT x = true ∧ (x.op == 7) = b ∧ 0 ≤ ndParts x ∧ i + 1 + (ndParts x).toNat ≤ j := by
  cases f with
  | zero => simp [bGo] at h
  | succ f =>
    simp only [bGo, hx] at h
    split at h
    · cases h
    · rename_i hc
      have hs : shapedT x = true := by simpa using (not_or.1 hc).1
      exact ⟨hs, by simpa using (not_or.1 hc).2, shapedT_parts x hs, bGo_count e _ _ _ _ _ _ h⟩
/-- Of what is a whole expression: at each place what begins there ends. -/
theorem tree_at {e : List Nd} (h : treeErr e = 0) {k : Nat} {x : Nd} (hx : e[k]? = some x) : ∃ r, bGo e (2 * e.length) (.one (x.op == 7)) k = some r ∧ r ≤ e.length := by
  have hk : k < e.length := (List.getElem?_eq_some_iff.1 hx).1
  unfold treeErr at h
  split at h
  · cases h
  · split at h
    · rename_i h1
      obtain ⟨f', r, q1, q2, q3⟩ := bGo_sub e _ _ _ _ h1 k x (by omega) hk hx
      exact ⟨r, bGo_mono_le e q1 q2, q3⟩
    · cases h
theorem tree_len {e : List Nd} (h : treeErr e = 0) : e.length ≤ 200 ∧ 0 < e.length := by
  unfold treeErr at h
  split at h
  · cases h
  · refine ⟨by omega, ?_⟩
    rcases Nat.eq_zero_or_pos e.length with h0 | h0
    · have : e = [] := List.eq_nil_of_length_eq_zero h0
      subst this
      simp [bGo] at h
    · exact h0
end Go.Proofs.YtcghjnpllobdmaaDoor
