/-
  PLAIN LAWS for TreeGone, TreeTwice, TreeValues.
-/
import Derived.Test.YtcghjnpllobdmaaDoorExPlain
namespace Go.Proofs.YtcghjnpllobdmaaDoor
open Go.RowKit

/-- The names that stand for something. -/
def varNames (e : List Nd) : List (List UInt8) := (e.filter fun n => n.op == 8).map fun n => n.s.toList
theorem varNames_append (a b : List Nd) : varNames (a ++ b) = varNames a ++ varNames b := by simp [varNames]
theorem varNames_cons (n : Nd) (e : List Nd) : varNames (n :: e) = (if n.op == 8 then [n.s.toList] else []) ++ varNames e := by
  unfold varNames; rw [List.filter_cons]; split <;> simp
theorem putL_absent {e : List Nd} {s : ByteArray} (v : List Nd) (h : s.toList ∉ varNames e) : putL e s v = e := by
  induction e with
  | nil => rfl
  | cons n e ih =>
    rw [varNames_cons, List.mem_append] at h
    have h1 : ¬ isVar s n = true := by
      intro hv
      unfold isVar at hv
      simp at hv
      apply h; left
      rw [if_pos (by simp [hv.1])]; simp [hv.2]
    rw [putL_cons, if_neg h1, ih (fun hh => h (.inr hh))]; rfl
theorem mem_put (e : List Nd) (s : ByteArray) (v : List Nd) (t : List UInt8) : t ∈ varNames (putL e s v) ↔ (t ∈ varNames e ∧ t ≠ s.toList) ∨ (s.toList ∈ varNames e ∧ t ∈ varNames v) := by
  induction e with
  | nil => simp [putL, varNames]
  | cons n e ih =>
    rw [putL_cons, varNames_append, List.mem_append, ih, varNames_cons]
    by_cases hn : isVar s n = true
    · have hh := hn
      unfold isVar at hh
      simp at hh
      rw [if_pos hn]
      simp only [hh.1, BEq.rfl, if_true, List.mem_append, List.mem_singleton, hh.2]
      constructor
      · rintro (h | h | h)
        · exact .inr ⟨.inl trivial, h⟩
        · exact .inl ⟨.inr h.1, h.2⟩
        · exact .inr ⟨.inr h.1, h.2⟩
      · rintro (⟨h1 | h1, h2⟩ | ⟨h1, h2⟩)
        · exact absurd h1 h2
        · exact .inr (.inl ⟨h1, h2⟩)
        · exact .inl h2
    · rw [if_neg hn, varNames_cons]
      by_cases h8 : (n.op == 8) = true
      · have hne : n.s.toList ≠ s.toList := by
          intro he; apply hn; unfold isVar; rw [h8, he]; simp
        simp only [h8, if_true, varNames, List.filter_nil, List.map_nil, List.append_nil, List.mem_append, List.mem_singleton]
        constructor
        · rintro (h | h | h)
          · exact .inl ⟨.inl h, by rw [h]; exact hne⟩
          · exact .inl ⟨.inr h.1, h.2⟩
          · exact .inr ⟨.inr h.1, h.2⟩
        · rintro (⟨h1 | h1, h2⟩ | ⟨h1 | h1, h2⟩)
          · exact .inl h1
          · exact .inr (.inl ⟨h1, h2⟩)
          · exact absurd h1.symm hne
          · exact .inr (.inr ⟨h1, h2⟩)
      · simp [h8, varNames]
/-- One and then the other. -/
theorem put_twice (e v w : List Nd) (s t : ByteArray) (hst : s.toList ≠ t.toList) (hw : s.toList ∉ varNames w) : putL (putL e s v) t w = putL (putL e t w) s (putL v t w) := by
  induction e with
  | nil => rfl
  | cons n e ih =>
    rw [putL_cons, putL_append, ih, putL_cons, putL_append]
    congr 1
    by_cases h1 : isVar s n = true
    · have hh := h1
      unfold isVar at hh
      simp at hh
      have h2 : ¬ isVar t n = true := by
        intro h; unfold isVar at h; simp at h; exact hst (hh.2.symm.trans h.2)
      rw [if_pos h1, if_neg h2, putL_cons, if_pos h1]; simp [putL]
    · rw [if_neg h1]
      by_cases h2 : isVar t n = true
      · rw [if_pos h2, putL_cons, if_pos h2, putL_absent _ hw]; simp [putL]
      · rw [if_neg h2, putL_cons, if_neg h2, putL_cons, if_neg h1]; simp [putL]

/-- A value is an expression, without names. -/
theorem vGo_ex (e : List Nd) : ∀ (f : Nat) (t : VTag) (i j : Nat), vGo e f t i = some j →
    Ex (match t with | .one => .one false | .set c _ => .more c false ⟨#[]⟩ | .flds c l => .more c true l) (piece e i j) ∧ ∀ x ∈ piece e i j, ¬ x.op = 8 := by
  intro f
  induction f with
  | zero =>
    intro t i j h
    cases t with
    | one => simp [vGo] at h
    | set c l => simp only [vGo] at h; split at h <;> simp at h; subst h; rename_i hc; subst hc; rw [piece_self]; exact ⟨.nil _ _, fun x hx => by cases hx⟩
    | flds c l => simp only [vGo] at h; split at h <;> simp at h; subst h; rename_i hc; subst hc; rw [piece_self]; exact ⟨.nil _ _, fun x hx => by cases hx⟩
  | succ f ih =>
    intro t i j h
    have hb := vGo_bound e _ _ _ _ h
    cases t with
    | one =>
      have hij := hb.2.2 rfl
      rw [vGo] at h
      split at h
      · cases h
      · rename_i n hn
        split at h
        · cases h
        · rename_i hsh
          have hsh : shapedV n = true := by simpa using hsh
          rw [piece_cons hn hij]
          split at h
          · rename_i h5
            obtain ⟨h1, h2⟩ := ih _ _ _ h
            have h1' : Ex (.more n.n.toNat false ⟨#[]⟩) (piece e (i + 1) j) := h1
            refine ⟨.one n _ false ?_ (by simp [h5]) ?_, fun x hx => ?_⟩
            · simp [shapedV, h5] at hsh; simp [shapedT, h5, hsh]
            · rw [show ndParts n = n.n from by simp [ndParts, h5], show (n.op == 6) = false from by simp [h5]]; exact h1'
            · rcases List.mem_cons.1 hx with rfl | hx
              · omega
              · exact h2 x hx
          · split at h
            · rename_i h5 h6
              obtain ⟨h1, h2⟩ := ih _ _ _ h
              have h1' : Ex (.more n.n.toNat true ⟨#[]⟩) (piece e (i + 1) j) := h1
              refine ⟨.one n _ false ?_ (by simp [h6]) ?_, fun x hx => ?_⟩
              · simp [shapedV, h6] at hsh; simp [shapedT, h6, hsh]
              · rw [show ndParts n = n.n from by simp [ndParts, h6], show (n.op == 6) = true from by simp [h6]]; exact h1'
              · rcases List.mem_cons.1 hx with rfl | hx
                · omega
                · exact h2 x hx
            · split at h
              · cases h
              · rename_i h5 h6 h7
                injection h with h
                subst h
                rw [piece_self]
                have h14 : n.op = 1 ∨ n.op = 2 ∨ n.op = 3 ∨ n.op = 4 := by
                  unfold shapedV at hsh
                  repeat' split at hsh
                  all_goals first | omega | cases hsh
                have hval : valErr [n] = 0 := by
                  simp [valErr, vGo, hsh, h5, h6, h7]
                refine ⟨.one n _ false ?_ (by simp [h7]) ?_, fun x hx => ?_⟩
                · unfold shapedT; rw [if_pos h14, hval]; rfl
                · rw [show ndParts n = 0 from by unfold ndParts; rw [if_pos (by omega)]]; exact .nil _ _
                · simp only [List.mem_singleton] at hx; subst hx; omega
    | set c l =>
      cases c with
      | zero => simp only [vGo] at h; injection h with h; subst h; rw [piece_self]; exact ⟨.nil _ _, fun x hx => by cases hx⟩
      | succ c =>
        rw [vGo] at h
        split at h
        · cases h
        · rename_i k hk
          split at h
          · cases h
          · obtain ⟨b1, b2, b3⟩ := vGo_bound e _ _ _ _ hk
            obtain ⟨_, b5, _⟩ := vGo_bound e _ _ _ _ h
            obtain ⟨h1, h2⟩ := ih _ _ _ hk
            obtain ⟨h3, h4⟩ := ih _ _ _ h
            have hik := b3 rfl
            rw [piece_split e (Nat.le_of_lt hik) b5]
            have hn : ∃ m, e[i]? = some m := by
              rcases Nat.lt_or_ge i e.length with hh | hh
              · exact ⟨_, List.getElem?_eq_getElem hh⟩
              · cases f <;> simp [vGo, List.getElem?_eq_none hh] at hk
            obtain ⟨m, hm⟩ := hn
            rw [piece_cons hm hik] at h1 h2 ⊢
            exact ⟨.cons c false ⟨#[]⟩ m _ _ (fun h => by cases h) h1 h3, fun x hx => by
              rcases List.mem_append.1 hx with hx | hx
              · exact h2 x hx
              · exact h4 x hx⟩
    | flds c l =>
      cases c with
      | zero => simp only [vGo] at h; injection h with h; subst h; rw [piece_self]; exact ⟨.nil _ _, fun x hx => by cases hx⟩
      | succ c =>
        rw [vGo] at h
        split at h
        · cases h
        · rename_i m hm
          split at h
          · cases h
          · rename_i hc
            split at h
            · cases h
            · rename_i k hk
              obtain ⟨hc1, hc2⟩ := not_or.1 hc
              obtain ⟨hc2, hc3⟩ := not_or.1 hc2
              have hc1 : m.op = 7 := by simpa using hc1
              have hc2 : shapedV m = true := by simpa using hc2
              obtain ⟨b1, b2, b3⟩ := vGo_bound e _ _ _ _ hk
              obtain ⟨_, b5, _⟩ := vGo_bound e _ _ _ _ h
              obtain ⟨h1, h2⟩ := ih _ _ _ hk
              obtain ⟨h3, h4⟩ := ih _ _ _ h
              have hik := b3 rfl
              rw [piece_split e (show i ≤ k by omega) b5, piece_cons hm (by omega)]
              have hf : ∃ q, e[i + 1]? = some q := by
                rcases Nat.lt_or_ge (i + 1) e.length with hh | hh
                · exact ⟨_, List.getElem?_eq_getElem hh⟩
                · cases f <;> simp [vGo, List.getElem?_eq_none hh] at hk
              obtain ⟨q, hq⟩ := hf
              rw [piece_cons hq hik] at h1 h2 ⊢
              have hfield : Ex (.one true) (m :: (q :: piece e (i + 1 + 1) k)) := by
                refine .one m _ true ?_ (by simp [hc1]) ?_
                · simp [shapedV, hc1] at hc2; simp [shapedT, hc1, hc2]
                · rw [show ndParts m = 1 from by simp [ndParts, hc1], show (m.op == 6) = false from by simp [hc1]]
                  have := Ex.cons 0 false ⟨#[]⟩ q _ [] (fun h => by cases h) h1 (.nil _ _)
                  simpa using this
              exact ⟨.cons c true l m _ _ (fun _ => by simpa using hc3) hfield h3, fun x hx => by
                rcases List.mem_append.1 hx with hx | hx
                · rcases List.mem_cons.1 hx with rfl | hx
                  · omega
                  · exact h2 x hx
                · exact h4 x hx⟩
theorem val_tree {e : List Nd} (h : valErr e = 0) : treeErr e = 0 ∧ varNames e = [] := by
  unfold valErr at h
  split at h
  · cases h
  · split at h
    · rename_i h1 h2
      obtain ⟨h3, h4⟩ := vGo_ex e _ _ _ _ h2
      rw [show piece e 0 e.length = e from by simp [piece]] at h3 h4
      refine ⟨(tree_iff e).2 ⟨by omega, h3⟩, ?_⟩
      unfold varNames
      rw [List.map_eq_nil_iff, List.filter_eq_nil_iff]
      intro x hx
      have := h4 x hx
      simpa using this
    · cases h
end Go.Proofs.YtcghjnpllobdmaaDoor
