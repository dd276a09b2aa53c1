/-
  PLAIN LAWS: an expression as a relation; what is put at a name leaves an expression.
-/
import Derived.Test.YtcghjnpllobdmaaDoorPPlain
namespace Go.Proofs.YtcghjnpllobdmaaDoor
open Go.RowKit

/-- These nodes are just that: one expression; so many parts behind a last name. -/
inductive Ex : BTag → List Nd → Prop where
  | one (n : Nd) (body : List Nd) (fld : Bool) : shapedT n = true → (n.op == 7) = fld → Ex (.more (ndParts n).toNat (n.op == 6) ⟨#[]⟩) body → Ex (.one fld) (n :: body)
  | nil (r : Bool) (l : ByteArray) : Ex (.more 0 r l) []
  | cons (c : Nat) (r : Bool) (l : ByteArray) (m : Nd) (xs ys : List Nd) : (r = true → sLate l m.s = false) → Ex (.one r) (m :: xs) → Ex (.more c r (if r = true then m.s else l)) ys → Ex (.more (c + 1) r l) (m :: xs ++ ys)

theorem piece_self (e : List Nd) (i : Nat) : piece e i i = [] := by simp [piece]
theorem piece_cons {e : List Nd} {i j : Nat} {x : Nd} (hx : e[i]? = some x) (h : i < j) : piece e i j = x :: piece e (i + 1) j := by
  have hi : i < e.length := (List.getElem?_eq_some_iff.1 hx).1
  unfold piece
  rw [List.drop_eq_getElem_cons hi, show j - i = (j - (i + 1)) + 1 from by omega, List.take_succ_cons]
  rw [List.getElem?_eq_getElem hi] at hx; injection hx with hx; rw [hx]
theorem piece_split (e : List Nd) {i k j : Nat} (h1 : i ≤ k) (h2 : k ≤ j) : piece e i j = piece e i k ++ piece e k j := by
  unfold piece
  have : e.drop k = (e.drop i).drop (k - i) := by rw [List.drop_drop]; congr 1; omega
  rw [this, show j - i = (k - i) + (j - k) from by omega, List.take_add]
theorem ex_of_bGo (e : List Nd) : ∀ (f : Nat) (t : BTag) (i j : Nat), bGo e f t i = some j → Ex t (piece e i j) := by
  intro f
  induction f with
  | zero =>
    intro t i j h
    cases t with
    | one b => simp [bGo] at h
    | more c r l => simp only [bGo] at h; split at h <;> simp at h; subst h; rename_i hc; subst hc; rw [piece_self]; exact .nil r l
  | succ f ih =>
    intro t i j h
    cases t with
    | one b =>
      have hij := (bGo_bound e _ _ _ _ h).2.2 b rfl
      rw [bGo] at h
      split at h
      · cases h
      · rename_i n hn
        split at h
        · cases h
        · rename_i hc
          rw [piece_cons hn hij]
          exact .one n _ b (by simpa using (not_or.1 hc).1) (by simpa using (not_or.1 hc).2) (ih _ _ _ h)
    | more c r l =>
      cases c with
      | zero => simp only [bGo] at h; injection h with h; subst h; rw [piece_self]; exact .nil r l
      | succ c =>
        rw [bGo] at h
        split at h
        · cases h
        · rename_i n hn
          split at h
          · cases h
          · rename_i hc
            split at h
            · cases h
            · rename_i k hk
              have h1 := (bGo_bound e _ _ _ _ hk).2.2 r rfl
              have h2 := (bGo_bound e _ _ _ _ h).2.1
              rw [piece_split e (Nat.le_of_lt h1) h2, piece_cons hn h1]
              have hx := ih _ _ _ hk
              rw [piece_cons hn h1] at hx
              exact .cons c r l n _ _ (fun hr => by
                have hc' := not_and.1 hc hr
                simpa using hc') hx (ih _ _ _ h)
theorem bGo_of_ex {t : BTag} {xs : List Nd} (h : Ex t xs) : ∀ (a b : List Nd) (f : Nat), 2 * xs.length + (match t with | .one _ => 0 | .more _ _ _ => 1) ≤ f → bGo (a ++ xs ++ b) f t a.length = some (a.length + xs.length) := by
  induction h with
  | one n body fld hs h7 hb ih =>
    intro a b f hf
    simp only [List.length_cons] at hf
    obtain ⟨f, rfl⟩ : ∃ g, f = g + 1 := ⟨f - 1, by omega⟩
    have hn : (a ++ n :: body ++ b)[a.length]? = some n := by simp
    have h2 := ih (a ++ [n]) b f (by simp only; omega)
    rw [bGo, hn]
    simp only
    rw [if_neg (by simp [hs, h7])]
    simp only [List.append_assoc, List.length_append, List.length_cons, List.length_nil, List.cons_append, List.nil_append] at h2 ⊢
    rw [h2]
    congr 1; omega
  | nil r l =>
    intro a b f hf
    cases f <;> simp [bGo]
  | cons c r l m xs ys hl hx hy ih1 ih2 =>
    intro a b f hf
    simp only [List.length_append, List.length_cons] at hf
    obtain ⟨f, rfl⟩ : ∃ g, f = g + 1 := ⟨f - 1, by omega⟩
    have hn : (a ++ (m :: xs ++ ys) ++ b)[a.length]? = some m := by simp
    have h1 := ih1 a (ys ++ b) f (by simp only [List.length_cons]; omega)
    have h2 := ih2 (a ++ (m :: xs)) b f (by simp only; omega)
    rw [bGo, hn]
    simp only
    rw [if_neg (by
      rintro ⟨hr, hb⟩
      rw [hl hr] at hb; cases hb)]
    simp only [List.append_assoc, List.length_append, List.length_cons, List.cons_append] at h1 h2 ⊢
    rw [h1]
    simp only
    rw [h2]
    congr 1; omega
theorem tree_iff (e : List Nd) : treeErr e = 0 ↔ e.length ≤ 200 ∧ Ex (.one false) e := by
  constructor
  · intro h
    have h' := h
    unfold treeErr at h'
    split at h'
    · cases h'
    · split at h'
      · rename_i h1 h2
        have := ex_of_bGo e _ _ _ _ h2
        rw [show piece e 0 e.length = e from by simp [piece]] at this
        exact ⟨by omega, this⟩
      · cases h'
  · rintro ⟨h1, h2⟩
    have := bGo_of_ex h2 [] [] (2 * e.length) (by simp)
    simp only [List.nil_append, List.append_nil, List.length_nil, Nat.zero_add] at this
    simp [treeErr, this, Nat.not_lt.2 h1]

/-- What is put at a name leaves an expression. -/
theorem ex_put {t : BTag} {xs : List Nd} (h : Ex t xs) (s : ByteArray) {v : List Nd} (hv : Ex (.one false) v) : Ex t (putL xs s v) ∧ (∀ m ys, xs = m :: ys → t = .one true → ∃ zs, putL xs s v = m :: zs) := by
  induction h with
  | one n body fld hs h7 hb ih =>
    rw [putL_cons]
    by_cases hn : isVar s n = true
    · have h8 : n.op = 8 := by unfold isVar at hn; simp at hn; exact hn.1
      have hf : fld = false := by rw [← h7, h8]; rfl
      subst hf
      have hp : ndParts n = 0 := by simp [ndParts, h8]
      rw [hp] at hb
      cases hb
      rw [if_pos hn, putL_nil, List.append_nil]
      exact ⟨hv, fun m ys _ h => by cases h⟩
    · rw [if_neg hn]
      exact ⟨.one n _ fld hs h7 ih.1, fun m ys h _ => by injection h with h1 h2; subst h1; exact ⟨_, rfl⟩⟩
  | nil r l => exact ⟨.nil r l, fun m ys h => by cases h⟩
  | cons c r l m xs ys hl hx hy ih1 ih2 =>
    refine ⟨?_, fun _ _ _ h => by cases h⟩
    rw [putL_append]
    cases r with
    | true =>
      obtain ⟨zs, hz⟩ := ih1.2 m xs rfl rfl
      have h1 := ih1.1
      rw [hz] at h1 ⊢
      exact .cons c true l m zs _ hl h1 ih2.1
    | false =>
      have h1 := ih1.1
      have hne : putL (m :: xs) s v ≠ [] := by intro h0; rw [h0] at h1; cases h1
      obtain ⟨m', zs, hz⟩ := List.exists_cons_of_ne_nil hne
      rw [hz] at h1 ⊢
      exact .cons c false l m' zs _ (fun h => by cases h) h1 ih2.1
theorem put_tree {e v : List Nd} {s : ByteArray} (he : treeErr e = 0) (hv : treeErr v = 0) (hl : (putL e s v).length ≤ 200) : treeErr (putL e s v) = 0 :=
  (tree_iff _).2 ⟨hl, (ex_put ((tree_iff e).1 he).2 s ((tree_iff v).1 hv).2).1⟩
end Go.Proofs.YtcghjnpllobdmaaDoor
