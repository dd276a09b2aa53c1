/-
  PLAIN LAWS: what is spelt is read again; what is read can be spelt.
-/
import Derived.Test.YtbommoefpekalaaGreatDoorSpPlain2
namespace Go.Proofs.YtbommoefpekalaaGreatDoor
open Go.RowKit

def bareTk (x : Tk) : Tk := ⟨x.kind, x.s, 0⟩
theorem bare_shift (d : Nat) (x : Tk) : bareTk (x.shift d) = bareTk x := rfl
theorem bare_of_eq {t x : Tk} (h : tkEq t ⟨x.kind, x.s, 0⟩ = true) : bareTk t = bareTk x := by
  obtain ⟨h1, h2, _⟩ := (tkEq_iff _ _).1 h
  have h2 : t.s.toList = x.s.toList := h2
  have e : t.s = x.s := by rw [← bsOf_toList t.s, ← bsOf_toList x.s, h2]
  have h1 : t.kind = x.kind := h1
  unfold bareTk
  rw [h1, e]
theorem speltP_read {x : Tk} (h : (speltP x).2 = true) : ∃ t a, readP (bsOf (speltP x).1) = ([t], a, 0) ∧ bareTk t = bareTk x := by
  have hf := speltP_fst h
  rw [hf]
  unfold speltP at h
  split at h
  · cases h
  · split at h
    · rename_i t a k hq
      split at h
      · rename_i hk
        subst hk
        exact ⟨t, a, hq, bare_of_eq h⟩
      · cases h
    · cases h
theorem readP_nil : readP (bsOf []) = ([], 0, 0) := by rw [readP_R, bsOf_sz, if_neg (by simp), bsOf_list]; rfl
theorem join_read : ∀ (xs : List Tk), (xs.all fun x => (speltP x).2) = true → xs.length ≤ 300 → (joinP (xs.map fun x => (speltP x).1)).length ≤ 900 → ∃ ys a, readP (bsOf (joinP (xs.map fun x => (speltP x).1))) = (ys, a, 0) ∧ ys.map bareTk = xs.map bareTk
  | [], _, _, _ => ⟨[], 0, readP_nil, rfl⟩
  | [x], h, _, _ => by
    simp only [List.all_cons, List.all_nil, Bool.and_true] at h
    obtain ⟨t, a, h1, h2⟩ := speltP_read h
    exact ⟨[t], a, by rw [List.map_cons, List.map_nil, joinP_one]; exact h1, by rw [List.map_cons, List.map_nil, h2]; rfl⟩
  | x :: y :: r, h, hl, hz => by
    rw [List.all_cons, Bool.and_eq_true] at h
    obtain ⟨t, a, h1, h2⟩ := speltP_read h.1
    have e : joinP ((x :: y :: r).map fun x => (speltP x).1) = (speltP x).1 ++ 32 :: joinP ((y :: r).map fun x => (speltP x).1) := by
      rw [List.map_cons, List.map_cons, joinP_cons]
    rw [e] at hz ⊢
    rw [List.length_append, List.length_cons] at hz
    obtain ⟨ys, b, h3, h4⟩ := join_read (y :: r) h.2 (by simp only [List.length_cons] at hl ⊢; omega) (by omega)
    have hyl : ys.length = (y :: r).length := by have := congrArg List.length h4; simpa using this
    have hj := readP_join (u := bsOf ((speltP x).1 ++ 32 :: joinP ((y :: r).map fun x => (speltP x).1))) h1 h3 (by rw [bsOf_list, bsOf_list, bsOf_list]) (by rw [bsOf_sz, bsOf_sz]; omega) (by simp only [List.length_cons, List.length_nil] at hl hyl ⊢; omega)
    refine ⟨_, _, hj, ?_⟩
    rw [List.map_append, List.map_map]
    have : (bareTk ∘ Tk.shift ((bsOf (speltP x).1).size + 1)) = bareTk := rfl
    rw [this, h4, List.map_cons, List.map_nil, h2]; rfl
/-- What is spelt is read again. -/
theorem spell_read {xs : List Tk} {l : List UInt8} (h : spellP xs = (l, 0)) : l.length ≤ 900 ∧ ∃ ys a, readP (bsOf l) = (ys, a, 0) ∧ ys.map bareTk = xs.map bareTk := by
  unfold spellP at h
  split at h
  · injection h with h1 h2; cases h2
  · split at h
    · injection h with h1 h2; cases h2
    · split at h
      · injection h with h1 h2; cases h2
      · rename_i h3 h4 h5
        injection h with h1 h2
        subst h1
        exact ⟨by omega, join_read xs (Bool.of_not_eq_false h4) (by omega) (by omega)⟩

/-! ### what is read can be spelt -/
theorem quoP_plain : ∀ {l : List UInt8} {acc : List UInt8} {n : Nat} {kind : Int} {t : List UInt8} {m : Nat}, quoP l acc n = .ok kind t m → acc.all plainB = true → t.all plainB = true ∧ t.length ≤ 60
  | [], acc, n, kind, t, m, h, _ => by simp [quoP] at h
  | [c], acc, n, kind, t, m, h, ha => by
    rw [quoP] at h
    split at h
    · split at h
      · cases h
      · rename_i h60
        injection h with h1 h2 h3; subst h2; exact ⟨ha, by omega⟩
    · split at h
      · cases h
      · split at h
        · rw [quoP] at h; cases h
        · cases h
  | c :: d :: r, acc, n, kind, t, m, h, ha => by
    rw [quoP] at h
    split at h
    · split at h
      · cases h
      · rename_i h60
        injection h with h1 h2 h3; subst h2; exact ⟨ha, by omega⟩
    · split at h
      · split at h
        · rename_i hd
          refine quoP_plain h ?_
          rw [List.all_append, ha, Bool.true_and, List.all_cons, List.all_nil, Bool.and_true]
          rcases hd with rfl | rfl <;> decide
        · cases h
      · split at h
        · rename_i hp
          refine quoP_plain h ?_
          rw [List.all_append, ha, Bool.true_and, List.all_cons, List.all_nil, Bool.and_true]
          exact hp
        · cases h
theorem lineR_words : ∀ (f : Nat) (l : List UInt8) (i : Nat) (acc : List Tk), l.length ≤ f → ∀ t ∈ (lineR l i acc).1, t ∈ acc ∨ ∃ c r n, c ≠ 32 ∧ wordP (c :: r) = .ok t.kind t.s.toList n := by
  intro f
  induction f with
  | zero =>
    intro l i acc hl t ht
    have : l = [] := List.eq_nil_of_length_eq_zero (by omega)
    subst this
    exact .inl ht
  | succ f ih =>
    intro l i acc hl t ht
    cases l with
    | nil => exact .inl ht
    | cons c r =>
      simp only [List.length_cons] at hl
      by_cases hc : c = 32
      · subst hc
        rw [lineR_blank] at ht
        exact ih _ _ _ (by omega) t ht
      · cases hw : wordP (c :: r) with
        | bad k => rw [lineR_bad hc hw] at ht; cases ht
        | ok kind tx n =>
          have hn := wordP_n hw
          simp only [List.length_cons] at hn
          rw [lineR_ok hc hw] at ht
          split at ht
          · cases ht
          · rcases ih _ _ _ (by rw [List.length_drop, List.length_cons]; omega) t ht with h | h
            · rcases List.mem_append.1 h with h | h
              · exact .inl h
              · rw [List.mem_singleton] at h
                subst h
                exact .inr ⟨c, r, n, hc, by rw [bsOf_list]; exact hw⟩
            · exact .inr h
theorem readP_words (s : ByteArray) : ∀ t ∈ (readP s).1, ∃ c r n, c ≠ 32 ∧ wordP (c :: r) = .ok t.kind t.s.toList n := by
  rw [readP_R]
  split
  · intro t ht; cases ht
  · intro t ht
    rcases lineR_words _ _ _ _ (Nat.le_refl _) t ht with h | h
    · cases h
    · exact h
theorem tw_head {p : UInt8 → Bool} {c : UInt8} {r : List UInt8} (h : p c = true) : (c :: r).takeWhile p = c :: r.takeWhile p := List.takeWhile_cons_of_pos h
theorem tw_all {p : UInt8 → Bool} : ∀ l : List UInt8, (l.takeWhile p).all p = true
  | [] => rfl
  | c :: r => by
    by_cases h : p c = true
    · rw [List.takeWhile_cons_of_pos h, List.all_cons, h, tw_all r]; rfl
    · rw [List.takeWhile_cons_of_neg h]; rfl
theorem dw_idem {p : UInt8 → Bool} : ∀ l : List UInt8, (l.dropWhile p).dropWhile p = l.dropWhile p
  | [] => rfl
  | c :: r => by
    by_cases h : p c = true
    · rw [List.dropWhile_cons_of_pos h, dw_idem r]
    · rw [List.dropWhile_cons_of_neg h, List.dropWhile_cons_of_neg h]
theorem num_again {l t : List UInt8} {k : Int} {n : Nat} (h : numP l = .ok k t n) (hne : l.takeWhile digB ≠ []) : k = 2 ∧ (∃ c r, t = c :: r ∧ digB c = true) ∧ numP t = .ok 2 t t.length := by
  unfold numP at h
  split at h
  · cases h
  · rename_i h19
    injection h with e1 e2 e3
    refine ⟨e1.symm, ?_⟩
    by_cases h0 : ((l.takeWhile digB).dropWhile (· == 48)) = []
    · rw [if_pos h0] at e2
      subst e2
      exact ⟨⟨48, [], rfl, by decide⟩, rfl⟩
    · rw [if_neg h0] at e2
      have hall : t.all digB = true := by
        rw [← e2, List.all_eq_true]
        intro x hx
        exact List.all_eq_true.1 (tw_all l) x ((List.dropWhile_suffix _).mem hx)
      have hd : t.dropWhile (· == 48) = t := by rw [← e2]; exact dw_idem _
      have ht : t ≠ [] := by rw [← e2]; exact h0
      have hl : ¬ 19 < t.length := by rw [← e2]; exact h19
      refine ⟨?_, ?_⟩
      · cases t with
        | nil => exact absurd rfl ht
        | cons c r => exact ⟨c, r, rfl, by simp only [List.all_cons, Bool.and_eq_true] at hall; exact hall.1⟩
      · unfold numP
        rw [tw_self t hall, hd, if_neg hl, if_neg ht]
theorem dig_not {c : UInt8} (h : digB c = true) : c ≠ 32 ∧ c ≠ 34 ∧ c ≠ 63 := by
  refine ⟨?_, ?_, ?_⟩ <;> rintro rfl <;> revert h <;> decide
theorem let_not {c : UInt8} (h : letB c = true) : c ≠ 32 ∧ c ≠ 34 ∧ c ≠ 63 := by
  refine ⟨?_, ?_, ?_⟩ <;> rintro rfl <;> revert h <;> decide
theorem sign_again {c : UInt8} {r : List UInt8} (h : signP (c :: r) ≠ []) : ∃ s, signP (c :: r) = c :: s ∧ signP (c :: s) = c :: s := by
  rw [signP_cons] at h ⊢
  split
  · rename_i h1
    exact ⟨[], rfl, by rw [signP_cons, if_pos h1]⟩
  · rename_i h1
    rw [if_neg h1] at h
    split
    · rename_i h2
      subst h2
      split
      · exact ⟨[58], rfl, by decide⟩
      · exact ⟨[], rfl, by decide⟩
    · rename_i h2
      rw [if_neg h2] at h
      split
      · rename_i h3
        subst h3
        split
        · exact ⟨[61], rfl, by decide⟩
        · exact ⟨[], rfl, by decide⟩
      · rename_i h3
        rw [if_neg h3] at h
        split
        · rename_i h4
          exact ⟨[c], rfl, by rw [signP_cons, if_neg h1, if_neg h2, if_neg h3, if_pos ⟨h4.1, rfl⟩]⟩
        · rename_i h4
          rw [if_neg h4] at h
          exact absurd rfl h
theorem bareP_ok {kind : Int} {c : UInt8} {r : List UInt8} (h32 : c ≠ 32) (h34 : c ≠ 34) (h63 : c ≠ 63) (hw : wordP (c :: r) = .ok kind (c :: r) (c :: r).length) : bareP kind (c :: r) = true := by
  simp only [bareP, hw]
  simp [h32, h34, h63]
/-- What is read can be spelt. -/
theorem rword_spelt {x : Tk} {c : UInt8} {r : List UInt8} {n : Nat} (hc : c ≠ 32) (h : wordP (c :: r) = .ok x.kind x.s.toList n) : (speltP x).2 = true := by
  have hh := h
  rw [wordP] at h
  split at h
  · rename_i hd
    obtain ⟨hk, ⟨c1, r1, ht, hd1⟩, hn⟩ := num_again h (by rw [tw_head hd]; exact List.cons_ne_nil _ _)
    rw [speltP_bare (by omega) (by omega), ht, hk]
    obtain ⟨q1, q2, q3⟩ := dig_not hd1
    refine bareP_ok q1 q2 q3 ?_
    rw [wordP, if_pos hd1, ← ht]
    exact hn
  · rename_i hd
    split at h
    · rename_i hl
      unfold namedP at h
      split at h
      · rename_i hn
        injection h with e1 e2 e3
        rw [speltP_bare (by omega) (by omega), ← e1, ← e2]
        obtain ⟨a1, _, _⟩ := nameErr_zero hn
        have hhd : (c :: r).takeWhile nameB = c :: r.takeWhile nameB := tw_head (letB_name hl)
        rw [hhd] at a1 hn ⊢
        obtain ⟨q1, q2, q3⟩ := let_not hl
        refine bareP_ok q1 q2 q3 ?_
        rw [wordP, if_neg hd, if_pos hl, namedP, a1, if_pos hn]; rfl
      · cases h
    · rename_i hl
      split at h
      · obtain ⟨_, _, hk⟩ := quoP_n h
        obtain ⟨h1, h2⟩ := quoP_plain h rfl
        rw [speltP_text hk, if_pos (textErr_ok h2 h1)]
      · rename_i h34
        split at h
        · unfold namedP at h
          split at h
          · rename_i hn
            injection h with e1 e2 e3
            rw [speltP_slot e1.symm, ← e2]
            exact decide_eq_true hn
          · cases h
        · rename_i h63
          split at h
          · cases h
          · rename_i hs
            injection h with e1 e2 e3
            rw [speltP_bare (by omega) (by omega), ← e1, ← e2]
            obtain ⟨s, hs1, hs2⟩ := sign_again hs
            rw [hs1]
            refine bareP_ok hc h34 h63 ?_
            rw [wordP, if_neg hd, if_neg hl, if_neg h34, if_neg h63, hs2, if_neg (List.cons_ne_nil _ _)]
theorem read_spelt (s : ByteArray) : ((readP s).1.all fun x => (speltP x).2) = true := by
  rw [List.all_eq_true]
  intro x hx
  obtain ⟨c, r, n, h1, h2⟩ := readP_words s x hx
  exact rword_spelt h1 h2
/-- What is read can be spelt, if it is not too long. -/
theorem spell_again {s : ByteArray} {xs : List Tk} {a : Nat} {k : Int} (h : readP s = (xs, a, k)) (hl : xs.length ≤ 300) : spellP xs = ([], 4) ∨ ∃ l, spellP xs = (l, 0) := by
  have ha := read_spelt s
  rw [h] at ha
  have ha : (xs.all fun x => (speltP x).2) = true := ha
  unfold spellP
  rw [if_neg (by omega), if_neg (by rw [ha]; simp)]
  split
  · exact .inl rfl
  · exact .inr ⟨_, rfl⟩
theorem lineR_len' : ∀ (f : Nat) (l : List UInt8) (i : Nat) (acc : List Tk), l.length ≤ f → acc.length ≤ 300 → (lineR l i acc).1.length ≤ 300 := by
  intro f
  induction f with
  | zero =>
    intro l i acc hl ha
    have : l = [] := List.eq_nil_of_length_eq_zero (by omega)
    subst this
    rw [lineR_nil]; exact ha
  | succ f ih =>
    intro l i acc hl ha
    cases l with
    | nil => rw [lineR_nil]; exact ha
    | cons c r =>
      simp only [List.length_cons] at hl
      by_cases hc : c = 32
      · subst hc
        rw [lineR_blank]
        exact ih r _ _ (by omega) ha
      · cases hw : wordP (c :: r) with
        | bad k => rw [lineR_bad hc hw]; simp
        | ok kind t m =>
          have hm := wordP_n hw
          simp only [List.length_cons] at hm
          rw [lineR_ok hc hw]
          split
          · simp
          · exact ih _ _ _ (by rw [List.length_drop, List.length_cons]; omega) (by rw [List.length_append, List.length_singleton]; omega)
theorem readP_len' (s : ByteArray) : (readP s).1.length ≤ 300 := by
  rw [readP_R]
  split
  · simp
  · exact lineR_len' _ _ _ _ (Nat.le_refl _) (by simp)
end Go.Proofs.YtbommoefpekalaaGreatDoor
