/-
  PLAIN LAWS: which words are spelt so that they are read again.
-/
import Derived.Test.YtbommoefpekalaaGreatDoorSpP
namespace Go.Proofs.YtbommoefpekalaaGreatDoor
open Go.RowKit

theorem bsOf_list (l : List UInt8) : (bsOf l).toList = l := by rw [ByteArray.toList_eq]; rfl
theorem bsOf_toList (s : ByteArray) : bsOf s.toList = s := by rw [ByteArray.toList_eq]; rfl
theorem bsOf_sz (l : List UInt8) : (bsOf l).size = l.length := by rw [← toList_len, bsOf_list]
/-- What is read begins with what was there; what is new begins behind. -/
theorem lineR_acc : ∀ (f : Nat) (l : List UInt8) (i : Nat) (acc q : List Tk) (a : Nat), l.length ≤ f → lineR l i acc = (q, a, 0) → ∃ y, q = acc ++ y ∧ ∀ t ∈ y, (i : Int) ≤ t.at_ := by
  intro f
  induction f with
  | zero =>
    intro l i acc q a hl h
    have : l = [] := List.eq_nil_of_length_eq_zero (by omega)
    subst this
    rw [lineR_nil] at h
    injection h with h1 h2
    exact ⟨[], by simp [h1], fun t ht => by cases ht⟩
  | succ f ih =>
    intro l i acc q a hl h
    cases l with
    | nil =>
      rw [lineR_nil] at h
      injection h with h1 h2
      exact ⟨[], by simp [h1], fun t ht => by cases ht⟩
    | cons c r =>
      simp only [List.length_cons] at hl
      by_cases hc : c = 32
      · subst hc
        rw [lineR_blank] at h
        obtain ⟨y, h1, h2⟩ := ih _ _ _ _ _ (by omega) h
        exact ⟨y, h1, fun t ht => by have := h2 t ht; omega⟩
      · cases hw : wordP (c :: r) with
        | bad k =>
          rw [lineR_bad hc hw] at h
          injection h with h1 h2
          injection h2 with h2 h3
          subst h3
          exact absurd hw wordP_ne0
        | ok kind t n =>
          have hn := wordP_n hw
          rw [lineR_ok hc hw] at h
          split at h
          · injection h with h1 h2; injection h2 with h2 h3; cases h3
          · obtain ⟨y, h1, h2⟩ := ih _ _ _ _ _ (by rw [List.length_drop, List.length_cons]; omega) h
            refine ⟨⟨kind, bsOf t, i⟩ :: y, by rw [h1, List.append_assoc]; rfl, fun t' ht => ?_⟩
            rcases List.mem_cons.1 ht with rfl | ht
            · exact Int.le_refl _
            · have := h2 t' ht; omega
/-- A line of one word. -/
theorem read_one {c : UInt8} {r : List UInt8} {k : Int} {t : List UInt8} (hc : c ≠ 32) (hw : wordP (c :: r) = .ok k t (r.length + 1)) (hl : r.length + 1 ≤ 900) : readP (bsOf (c :: r)) = ([⟨k, bsOf t, 0⟩], 0, 0) := by
  rw [readP_R, bsOf_sz, if_neg (by simp; omega), bsOf_list, lineR_ok hc hw, if_neg (by simp), List.drop_eq_nil_of_le (by simp), lineR_nil]
  rfl
/-- The one word of a line that begins at its beginning. -/
theorem read_one_inv {l : List UInt8} {t : Tk} {a : Nat} (h : readP (bsOf l) = ([t], a, 0)) (ht : t.at_ = 0) : ∃ c r n, l = c :: r ∧ c ≠ 32 ∧ wordP (c :: r) = .ok t.kind t.s.toList n ∧ l.length ≤ 900 := by
  rw [readP_R, bsOf_sz] at h
  split at h
  · injection h with h1 h2; cases h1
  · rename_i h9
    rw [bsOf_list] at h
    cases l with
    | nil => rw [lineR_nil] at h; injection h with h1 h2; cases h1
    | cons c r =>
      by_cases hc : c = 32
      · subst hc
        rw [lineR_blank] at h
        obtain ⟨y, h1, h2⟩ := lineR_acc _ _ _ _ _ _ (Nat.le_refl _) h
        rw [List.nil_append] at h1
        have := h2 t (by rw [← h1]; simp)
        omega
      · cases hw : wordP (c :: r) with
        | bad k =>
          rw [lineR_bad hc hw] at h
          injection h with h1 h2; cases h1
        | ok kind tx n =>
          rw [lineR_ok hc hw, if_neg (by simp)] at h
          obtain ⟨y, h1, _⟩ := lineR_acc _ _ _ _ _ _ (Nat.le_refl _) h
          rw [List.nil_append] at h1
          injection h1 with h1 h3
          subst h1
          exact ⟨c, r, n, rfl, hc, by rw [bsOf_list]; exact hw, by omega⟩

/-! ### texts -/
theorem plain_all {l : List UInt8} (h : textErr l = 0) : l.length ≤ 60 ∧ l.all plainB = true := by
  unfold textErr at h
  split at h
  · cases h
  · split at h
    · cases h
    · rename_i a b; exact ⟨by omega, Bool.of_not_eq_false b⟩
theorem textErr_ok {l : List UInt8} (h1 : l.length ≤ 60) (h2 : l.all plainB = true) : textErr l = 0 := by
  unfold textErr; rw [if_neg (by omega), if_neg (by simp [h2])]
theorem quoP_esc : ∀ (s acc : List UInt8) (n : Nat), s.all plainB = true → acc.length + s.length ≤ 60 → quoP (escP s ++ [34]) acc n = .ok 3 (acc ++ s) (n + (escP s).length + 1)
  | [], acc, n, _, hl => by
    show quoP [34] acc n = _
    rw [quoP_cons, if_pos rfl, if_neg (by simp at hl; omega)]
    simp [escP]
  | b :: s, acc, n, hp, hl => by
    simp only [List.all_cons, Bool.and_eq_true] at hp
    simp only [List.length_cons] at hl
    have ih := quoP_esc s (acc ++ [b]) (n + (esc1 b).length) hp.2 (by simp; omega)
    rw [List.append_assoc] at ih
    have e : escP (b :: s) = esc1 b ++ escP s := rfl
    rw [e, List.append_assoc, List.length_append]
    rw [show n + ((esc1 b).length + (escP s).length) + 1 = n + (esc1 b).length + (escP s).length + 1 by omega]
    have ih2 : quoP (escP s ++ [34]) (acc ++ [b]) (n + (esc1 b).length) = .ok 3 (acc ++ b :: s) (n + (esc1 b).length + (escP s).length + 1) := ih
    rw [← ih2]
    by_cases hq : escB b = true
    · have hb : b = 34 ∨ b = 92 := by simpa [escB] using hq
      have e1 : esc1 b = [92, b] := by rw [esc1, if_pos hq]
      rw [e1, List.cons_append, quoP_cons, if_neg (by decide), if_pos rfl]
      show (if b = 34 ∨ b = 92 then quoP ([] ++ (escP s ++ [34])) (acc ++ [b]) (n + 2) else .bad 1) = _
      rw [if_pos hb]; rfl
    · have hb : ¬ (b = 34 ∨ b = 92) := by simpa [escB] using hq
      have e1 : esc1 b = [b] := by rw [esc1, if_neg hq]
      rw [e1, List.cons_append, List.nil_append, quoP_cons, if_neg (fun h => hb (.inl h)), if_neg (fun h => hb (.inr h)), if_pos hp.1]; rfl
theorem speltP_text {x : Tk} (h3 : x.kind = 3) : speltP x = if textErr x.s.toList = 0 then (quoteV x.s.toList, true) else ([], false) := by
  by_cases he : textErr x.s.toList = 0
  · rw [if_pos he, speltP, if_neg (fun h => h.2 he)]
    obtain ⟨hl, ha⟩ := plain_all he
    have hq : speltT x = 34 :: (escP x.s.toList ++ [34]) := by rw [speltT, if_pos h3, quoteV, if_pos he]
    have hw : wordP (34 :: (escP x.s.toList ++ [34])) = .ok 3 x.s.toList ((escP x.s.toList ++ [34]).length + 1) := by
      rw [wordP, if_neg (by decide), if_neg (by decide), if_pos rfl, quoP_esc _ _ _ ha (by simpa using hl)]
      simp; omega
    have hle := escP_bound x.s.toList
    have hr := read_one (by decide) hw (by simp; omega)
    rw [hq, hr]
    show ((34 :: (escP x.s.toList ++ [34]), tkEq ⟨3, bsOf x.s.toList, 0⟩ ⟨x.kind, x.s, 0⟩) : List UInt8 × Bool) = _
    rw [quoteV, if_pos he, tkEq, h3, bsOf_toList]
    simp
  · rw [if_neg he, speltP, if_pos ⟨h3, he⟩]

/-! ### names -/
theorem tw_self {p : UInt8 → Bool} : ∀ l : List UInt8, l.all p = true → l.takeWhile p = l
  | [], _ => rfl
  | c :: r, h => by
    simp only [List.all_cons, Bool.and_eq_true] at h
    rw [List.takeWhile_cons_of_pos h.1, tw_self r h.2]
theorem nameErr_zero {l : List UInt8} (h : nameErr l = 0) : l.takeWhile nameB = l ∧ l.length ≤ 20 ∧ ∃ c r, l = c :: r ∧ letB c = true := by
  cases l with
  | nil => cases h
  | cons c r =>
    have e : nameErr (c :: r) = if letterI (c.toNat : Int) = false then 1 else if (c :: r).all nameB = false then 1 else if 20 < (c :: r).length then 4 else 0 := rfl
    rw [e] at h
    split at h
    · cases h
    · split at h
      · cases h
      · split at h
        · cases h
        · rename_i h1 h2 h3
          refine ⟨?_, by omega, c, r, rfl, by simpa [letB] using h1⟩
          exact tw_self _ (Bool.of_not_eq_false h2)
theorem tkEq_iff (t x : Tk) : tkEq t x = true ↔ t.kind = x.kind ∧ t.s.toList = x.s.toList ∧ t.at_ = x.at_ := by simp [tkEq]
/-- When a word is read again. -/
theorem speltP_iff (x : Tk) (h3 : ¬ x.kind = 3) : (speltP x).2 = true ↔ ∃ t a, readP (bsOf (speltT x)) = ([t], a, 0) ∧ t.kind = x.kind ∧ t.s.toList = x.s.toList ∧ t.at_ = 0 := by
  rw [speltP, if_neg (fun h => h3 h.1)]
  constructor
  · intro h
    split at h
    · rename_i t a k hq
      split at h
      · rename_i hk
        subst hk
        exact ⟨t, a, hq, (tkEq_iff _ _).1 h⟩
      · cases h
    · cases h
  · rintro ⟨t, a, hq, hh⟩
    rw [hq]
    exact (tkEq_iff _ _).2 hh
theorem speltP_slot {x : Tk} (h4 : x.kind = 4) : (speltP x).2 = decide (nameErr x.s.toList = 0) := by
  have h3 : ¬ x.kind = 3 := by omega
  have hT : speltT x = 63 :: x.s.toList := by rw [speltT, if_neg h3, if_pos h4]
  rw [Bool.eq_iff_iff, decide_eq_true_iff, speltP_iff x h3, hT]
  have hw : wordP (63 :: x.s.toList) = namedP 4 x.s.toList 1 := by rw [wordP, if_neg (by decide), if_neg (by decide), if_neg (by decide), if_pos rfl]
  constructor
  · rintro ⟨t, a, hq, h1, h2, h0⟩
    obtain ⟨c, r, n, he, _, hww, _⟩ := read_one_inv hq h0
    rw [← he, hw, h1, h2] at hww
    unfold namedP at hww
    split at hww
    · rename_i hn
      injection hww with _ e2 _
      rwa [e2] at hn
    · cases hww
  · intro hn
    obtain ⟨h1, h2, _⟩ := nameErr_zero hn
    have hww : wordP (63 :: x.s.toList) = .ok 4 x.s.toList (x.s.toList.length + 1) := by rw [hw, namedP, h1, if_pos hn]
    exact ⟨_, _, read_one (by decide) hww (by omega), h4.symm, bsOf_list _, rfl⟩

/-! ### numbers, names, signs -/
theorem wordP_kind {c : UInt8} {r : List UInt8} {k : Int} {t : List UInt8} {n : Nat} (h : wordP (c :: r) = .ok k t n) (h3 : ¬ k = 3) (h4 : ¬ k = 4) : c ≠ 34 ∧ c ≠ 63 ∧ t.length ≤ n ∧ (n = (c :: r).length → t = c :: r → (c :: r).length ≤ 20) := by
  have e34 : digB 34 = false := by decide
  have e34' : letB 34 = false := by decide
  have e63 : digB 63 = false := by decide
  have e63' : letB 63 = false := by decide
  have l34 : c ≠ 34 := by
    rintro rfl
    rw [wordP, if_neg (by simp [e34]), if_neg (by simp [e34']), if_pos rfl] at h
    exact h3 (quoP_n h).2.2
  have l63 : c ≠ 63 := by
    rintro rfl
    rw [wordP, if_neg (by simp [e63]), if_neg (by simp [e63']), if_neg (by decide), if_pos rfl] at h
    unfold namedP at h
    split at h
    · injection h with e1; exact h4 e1.symm
    · cases h
  refine ⟨l34, l63, ?_⟩
  rw [wordP] at h
  split at h
  · unfold numP at h
    split at h
    · cases h
    · rename_i hd h19
      injection h with e1 e2 e3
      subst e2 e3
      have hdw : (((c :: r).takeWhile digB).dropWhile (· == 48)).length ≤ ((c :: r).takeWhile digB).length := (List.dropWhile_suffix _).length_le
      have hpos := takeWhile_pos (r := r) hd
      split
      · exact ⟨by simpa using hpos, fun _ h => by rw [← h]; simp⟩
      · exact ⟨hdw, fun _ h => by rw [← h]; omega⟩
  · split at h
    · unfold namedP at h
      split at h
      · rename_i hn
        injection h with e1 e2 e3
        subst e2 e3
        exact ⟨by omega, fun _ h => by rw [← h]; exact (nameErr_zero hn).2.1⟩
      · cases h
    · try rw [if_neg l34, if_neg l63] at h
      split at h
      · cases h
      · injection h with e1 e2 e3
        subst e2 e3
        refine ⟨Nat.le_refl _, fun _ h => ?_⟩
        rw [← h]
        have : ∀ l : List UInt8, (signP l).length ≤ 20 := by
          intro l
          cases l with
          | nil => simp [signP]
          | cons a r =>
            rw [signP_cons]
            split
            · simp
            · split
              · split <;> simp
              · split
                · split <;> simp
                · split <;> simp
        exact this _
/-- A bare word: is it read as it stands? -/
def bareP (kind : Int) (l : List UInt8) : Bool :=
  match l with
  | [] => false
  | c :: r => !(c == 32 || c == 34 || c == 63) && (match wordP (c :: r) with
    | .ok k t n => decide (n = (c :: r).length) && decide (k = kind) && decide (t = c :: r)
    | .bad _ => false)
theorem speltP_bare {x : Tk} (h3 : ¬ x.kind = 3) (h4 : ¬ x.kind = 4) : (speltP x).2 = bareP x.kind x.s.toList := by
  have hT : speltT x = x.s.toList := by rw [speltT, if_neg h3, if_neg h4]
  rw [Bool.eq_iff_iff, speltP_iff x h3, hT]
  constructor
  · rintro ⟨t, a, hq, h1, h2, h0⟩
    obtain ⟨c, r, n, he, hc, hw, hl⟩ := read_one_inv hq h0
    rw [h1, h2] at hw
    obtain ⟨k1, k2, k3, _⟩ := wordP_kind hw h3 h4
    have hn := wordP_n hw
    rw [he] at k3 ⊢
    rw [he] at hw
    have hnl : n = (c :: r).length := by omega
    simp only [bareP, hw]
    simp [hc, k1, k2, hnl]
  · intro h
    cases hs : x.s.toList with
    | nil => rw [hs] at h; cases h
    | cons c r =>
      rw [hs] at h
      simp only [bareP, Bool.and_eq_true] at h
      obtain ⟨hc, h⟩ := h
      split at h
      · rename_i k t n hw
        simp only [Bool.and_eq_true, decide_eq_true_eq] at h
        obtain ⟨⟨e1, e2⟩, e3⟩ := h
        subst e1 e2 e3
        have h20 := (wordP_kind hw h3 h4).2.2.2 rfl rfl
        have hc32 : c ≠ 32 := by rintro rfl; simp at hc
        simp only [List.length_cons] at hw h20
        exact ⟨_, _, read_one hc32 hw (by omega), rfl, by rw [bsOf_list], rfl⟩
      · cases h
theorem speltP_fst {x : Tk} (h : (speltP x).2 = true) : (speltP x).1 = speltT x := by
  unfold speltP at h ⊢
  split
  · rename_i h'; rw [if_pos h'] at h; cases h
  · rename_i h'
    rw [if_neg h'] at h
    split at h
    · rename_i hq
      split at h
      · rename_i hk; simp only [hk, if_true]
      · cases h
    · cases h
end Go.Proofs.YtbommoefpekalaaGreatDoor
