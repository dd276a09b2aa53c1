/-
  PLAIN WORDS: the words of a line, on lists of bytes. No program in sight.
  PLAIN LAWS: reading a line, word by word; line behind line.
  PLAIN WORDS: what a text is between quotes.
  PLAIN WORDS: the spelling of words.
-/
import Derived.Test.YtbommoefpekalaaGreatDoorBase
import Derived.Lib.Bytealg
import Derived.Lib.Join
namespace Go.Proofs.YtbommoefpekalaaGreatDoor
open Go.RowKit

def digB (c : UInt8) : Bool := digitI (c.toNat : Int)
def letB (c : UInt8) : Bool := letterI (c.toNat : Int)
/-- What begins here: wrong, or a word: its kind, its text, how many bytes it takes. -/
inductive Wd where
  | bad (k : Int)
  | ok (kind : Int) (t : List UInt8) (n : Nat)
def numP (l : List UInt8) : Wd :=
  if 19 < ((l.takeWhile digB).dropWhile (· == 48)).length then .bad 4
  else .ok 2 (if ((l.takeWhile digB).dropWhile (· == 48)) = [] then [48] else (l.takeWhile digB).dropWhile (· == 48)) (l.takeWhile digB).length
def namedP (kind : Int) (l : List UInt8) (x : Nat) : Wd :=
  if nameErr (l.takeWhile nameB) = 0 then .ok kind (l.takeWhile nameB) ((l.takeWhile nameB).length + x) else .bad (nameErr (l.takeWhile nameB))
/-- A text behind its first quote; so many bytes were taken. -/
def quoP : List UInt8 → List UInt8 → Nat → Wd
  | [], _, _ => .bad 1
  | c :: r, acc, n =>
    if c = 34 then (if 60 < acc.length then .bad 4 else .ok 3 acc (n + 1))
    else if c = 92 then
      match r with
      | [] => .bad 1
      | d :: r' => if d = 34 ∨ d = 92 then quoP r' (acc ++ [d]) (n + 2) else .bad 1
    else if plainB c then quoP r (acc ++ [c]) (n + 1) else .bad 1
def sign1 (a : UInt8) : Bool := a == 40 || a == 41 || a == 91 || a == 93 || a == 123 || a == 125 || a == 44 || a == 46 || a == 33 || a == 43 || a == 45 || a == 42
def signP : List UInt8 → List UInt8
  | [] => []
  | a :: r =>
    if sign1 a then [a]
    else if a = 58 then (if r.head? = some 58 then [58, 58] else [58])
    else if a = 60 then (if r.head? = some 61 then [60, 61] else [60])
    else if (a = 61 ∨ a = 38 ∨ a = 124) ∧ r.head? = some a then [a, a]
    else []
def wordP (l : List UInt8) : Wd :=
  match l with
  | [] => .bad 1
  | c :: r =>
    if digB c then numP l
    else if letB c then namedP 1 l 0
    else if c = 34 then quoP r [] 1
    else if c = 63 then namedP 4 r 1
    else if signP l = [] then .bad 1 else .ok 5 (signP l) (signP l).length

/-- A token. -/
structure Tk where
  kind : Int
  s : ByteArray
  at_ : Int
def bsOf (l : List UInt8) : ByteArray := ⟨l.toArray⟩
/-- The words of a line, of which so many bytes have been read: they, where, what is wrong. -/
def lineP : Nat → List UInt8 → Nat → List Tk → List Tk × Nat × Int
  | 0, _, _, acc => (acc, 0, 0)
  | f + 1, l, i, acc =>
    match l with
    | [] => (acc, 0, 0)
    | c :: r =>
      if c = 32 then lineP f r (i + 1) acc
      else match wordP l with
        | .bad k => ([], i, k)
        | .ok kind t n => if acc.length = 300 then ([], i, 4) else lineP f (l.drop n) (i + n) (acc ++ [⟨kind, bsOf t, i⟩])
/-- What reading a line tells. -/
def readP (s : ByteArray) : List Tk × Nat × Int := if 900 < s.size then ([], 0, 4) else lineP s.size s.toList 0 []

theorem quoP_n : ∀ {l : List UInt8} {acc : List UInt8} {n : Nat} {kind : Int} {t : List UInt8} {m : Nat}, quoP l acc n = .ok kind t m → n < m ∧ m ≤ n + l.length ∧ kind = 3
  | [], acc, n, kind, t, m, h => by simp [quoP] at h
  | [c], acc, n, kind, t, m, h => by
    rw [quoP] at h
    split at h
    · split at h
      · cases h
      · injection h with h1 h2 h3; subst h1 h2 h3; simp
    · split at h
      · cases h
      · split at h
        · rw [quoP] at h; cases h
        · cases h
  | c :: d :: r, acc, n, kind, t, m, h => by
    rw [quoP] at h
    split at h
    · split at h
      · cases h
      · injection h with h1 h2 h3; subst h1 h2 h3; simp
    · split at h
      · split at h
        · have := quoP_n h; simp only [List.length_cons]; omega
        · cases h
      · split at h
        · have := quoP_n h; simp only [List.length_cons] at this ⊢; omega
        · cases h
end Go.Proofs.YtbommoefpekalaaGreatDoor
namespace Go.Proofs.YtbommoefpekalaaGreatDoor
open Go.RowKit

theorem letB_name {c : UInt8} (h : letB c = true) : nameB c = true := by unfold letB at h; simp [nameB, h]
theorem takeWhile_pos {p : UInt8 → Bool} {c : UInt8} {r : List UInt8} (h : p c = true) : 1 ≤ ((c :: r).takeWhile p).length := by
  rw [List.takeWhile_cons_of_pos h, List.length_cons]; omega
theorem takeWhile_len (p : UInt8 → Bool) (l : List UInt8) : (l.takeWhile p).length ≤ l.length := (List.takeWhile_prefix p).length_le
theorem signP_cons (a : UInt8) (r : List UInt8) : signP (a :: r) = if sign1 a then [a] else if a = 58 then (if r.head? = some 58 then [58, 58] else [58]) else if a = 60 then (if r.head? = some 61 then [60, 61] else [60]) else if (a = 61 ∨ a = 38 ∨ a = 124) ∧ r.head? = some a then [a, a] else [] := rfl
theorem head_some {r : List UInt8} {b : UInt8} (h : r.head? = some b) : 1 ≤ r.length := by
  cases r with
  | nil => simp at h
  | cons => simp
theorem signP_len (l : List UInt8) : (signP l).length ≤ l.length := by
  cases l with
  | nil => simp [signP]
  | cons a r =>
    rw [signP_cons, List.length_cons]
    split
    · simp
    · split
      · split
        · rename_i h; have := head_some h; simp; omega
        · simp
      · split
        · split
          · rename_i h; have := head_some h; simp; omega
          · simp
        · split
          · rename_i h; have := head_some h.2; simp; omega
          · simp
theorem quoP_cons (c : UInt8) (r acc : List UInt8) (n : Nat) : quoP (c :: r) acc n = if c = 34 then (if 60 < acc.length then .bad 4 else .ok 3 acc (n + 1)) else if c = 92 then (match r with | [] => .bad 1 | d :: r' => if d = 34 ∨ d = 92 then quoP r' (acc ++ [d]) (n + 2) else .bad 1) else if plainB c then quoP r (acc ++ [c]) (n + 1) else .bad 1 := by
  cases r with
  | nil => conv => lhs; unfold quoP
  | cons d r => conv => lhs; unfold quoP
theorem wordP_n {l : List UInt8} {kind : Int} {t : List UInt8} {n : Nat} (h : wordP l = .ok kind t n) : 1 ≤ n ∧ n ≤ l.length := by
  cases l with
  | nil => simp [wordP] at h
  | cons c r =>
    rw [wordP] at h
    split at h
    · rename_i hd
      unfold numP at h
      split at h
      · cases h
      · injection h with h1 h2 h3
        subst h3
        exact ⟨takeWhile_pos hd, takeWhile_len _ _⟩
    · split at h
      · rename_i hl
        unfold namedP at h
        split at h
        · injection h with h1 h2 h3
          subst h3
          exact ⟨takeWhile_pos (letB_name hl), takeWhile_len _ _⟩
        · cases h
      · split at h
        · have := quoP_n h
          simp only [List.length_cons]; omega
        · split at h
          · unfold namedP at h
            split at h
            · injection h with h1 h2 h3
              subst h3
              have := takeWhile_len nameB r
              simp only [List.length_cons]; omega
            · cases h
          · split at h
            · cases h
            · rename_i hs
              injection h with h1 h2 h3
              subst h3
              exact ⟨List.length_pos_iff.2 hs, signP_len _⟩

def lineR (l : List UInt8) (i : Nat) (acc : List Tk) : List Tk × Nat × Int := lineP l.length l i acc
theorem lineP_more : ∀ (f : Nat) (l : List UInt8) (i : Nat) (acc : List Tk), l.length ≤ f → lineP f l i acc = lineP l.length l i acc := by
  intro f
  induction f using Nat.strongRecOn with
  | _ f ih =>
    intro l i acc hl
    cases f with
    | zero => rw [Nat.le_zero.1 hl]
    | succ f =>
      cases l with
      | nil => simp [lineP]
      | cons c r =>
        simp only [List.length_cons] at hl ⊢
        rw [lineP, lineP]
        split
        · exact ih f (by omega) r _ _ (by omega)
        · split
          · rfl
          · rename_i kind t n hw
            have hn := wordP_n hw
            split
            · rfl
            · have hd : ((c :: r).drop n).length ≤ r.length := by rw [List.length_drop, List.length_cons]; omega
              rw [ih f (by omega) _ _ _ (by omega), ih r.length (by omega) _ _ _ hd]
theorem lineR_nil (i : Nat) (acc : List Tk) : lineR [] i acc = (acc, 0, 0) := rfl
theorem lineR_blank (r : List UInt8) (i : Nat) (acc : List Tk) : lineR (32 :: r) i acc = lineR r (i + 1) acc := by
  unfold lineR; rw [List.length_cons, lineP, if_pos rfl]
theorem lineR_bad {c : UInt8} {r : List UInt8} {k : Int} (hc : c ≠ 32) (h : wordP (c :: r) = .bad k) (i : Nat) (acc : List Tk) : lineR (c :: r) i acc = ([], i, k) := by
  unfold lineR; rw [List.length_cons, lineP, if_neg hc, h]
theorem lineR_ok {c : UInt8} {r : List UInt8} {kind : Int} {t : List UInt8} {n : Nat} (hc : c ≠ 32) (h : wordP (c :: r) = .ok kind t n) (i : Nat) (acc : List Tk) :
    lineR (c :: r) i acc = if acc.length = 300 then ([], i, 4) else lineR ((c :: r).drop n) (i + n) (acc ++ [⟨kind, bsOf t, i⟩]) := by
  unfold lineR
  rw [List.length_cons, lineP, if_neg hc, h]
  have hn := wordP_n h
  simp only
  split
  · rfl
  · exact lineP_more _ _ _ _ (by rw [List.length_drop, List.length_cons]; omega)
theorem readP_R (s : ByteArray) : readP s = if 900 < s.size then ([], 0, 4) else lineR s.toList 0 [] := by
  unfold readP lineR; rw [toList_len]

theorem takeWhile_stop {p : UInt8 → Bool} {c : UInt8} (h : p c = false) (l m : List UInt8) : (l ++ c :: m).takeWhile p = l.takeWhile p := by
  induction l with
  | nil => rw [List.nil_append, List.takeWhile_cons_of_neg (by simp [h])]; rfl
  | cons a l ih =>
    rw [List.cons_append]
    by_cases ha : p a = true
    · rw [List.takeWhile_cons_of_pos ha, List.takeWhile_cons_of_pos ha, ih]
    · rw [List.takeWhile_cons_of_neg ha, List.takeWhile_cons_of_neg ha]
theorem quoP_app : ∀ {l : List UInt8} {acc : List UInt8} {n : Nat} {kind : Int} {t : List UInt8} {m : Nat} (x : List UInt8), quoP l acc n = .ok kind t m → quoP (l ++ x) acc n = .ok kind t m
  | [], acc, n, kind, t, m, x, h => by simp [quoP] at h
  | [c], acc, n, kind, t, m, x, h => by
    rw [quoP] at h
    rw [List.cons_append, quoP_cons]
    split at h
    · rename_i hc; rw [if_pos hc]; exact h
    · split at h
      · cases h
      · split at h
        · rw [quoP] at h; cases h
        · cases h
  | c :: d :: r, acc, n, kind, t, m, x, h => by
    rw [quoP] at h
    rw [List.cons_append, quoP_cons]
    split at h
    · rename_i hc; rw [if_pos hc]; exact h
    · rename_i hc
      rw [if_neg hc]
      split at h
      · rename_i h92
        rw [if_pos h92]
        rw [List.cons_append]
        simp only
        split at h
        · rename_i hd
          rw [if_pos hd]
          exact quoP_app x h
        · cases h
      · rename_i h92
        rw [if_neg h92]
        split at h
        · rename_i hp
          rw [if_pos hp]
          exact quoP_app x h
        · cases h
theorem signP_stop (a : UInt8) (r m : List UInt8) : signP (a :: (r ++ 32 :: m)) = signP (a :: r) := by
  cases r with
  | cons b r => rfl
  | nil =>
    rw [signP_cons, signP_cons]
    by_cases h1 : sign1 a = true
    · rw [if_pos h1, if_pos h1]
    · rw [if_neg h1, if_neg h1]
      by_cases h2 : a = 58
      · subst h2; simp
      · rw [if_neg h2, if_neg h2]
        by_cases h3 : a = 60
        · subst h3; simp
        · rw [if_neg h3, if_neg h3]
          have h4 : ¬ ((a = 61 ∨ a = 38 ∨ a = 124) ∧ (32 : UInt8) = a) := by
            rintro ⟨h, rfl⟩
            revert h; decide
          rw [if_neg (by rintro ⟨h, h5⟩; exact h4 ⟨h, by simpa using h5⟩), if_neg (by rintro ⟨_, h5⟩; simp at h5)]
theorem wordP_stop {l : List UInt8} {kind : Int} {t : List UInt8} {n : Nat} (m : List UInt8) (h : wordP l = .ok kind t n) : wordP (l ++ 32 :: m) = .ok kind t n := by
  cases l with
  | nil => simp [wordP] at h
  | cons c r =>
    have hd : digB 32 = false := by decide
    have hn : nameB 32 = false := by decide
    rw [List.cons_append, wordP]
    rw [wordP] at h
    split at h
    · rename_i h1
      rw [if_pos h1]
      unfold numP at h ⊢
      rw [← List.cons_append, takeWhile_stop hd]; exact h
    · rename_i h1
      rw [if_neg h1]
      split at h
      · rename_i h2
        rw [if_pos h2]
        unfold namedP at h ⊢
        rw [← List.cons_append, takeWhile_stop hn]; exact h
      · rename_i h2
        rw [if_neg h2]
        split at h
        · rename_i h3
          rw [if_pos h3]
          exact quoP_app _ h
        · rename_i h3
          rw [if_neg h3]
          split at h
          · rename_i h4
            rw [if_pos h4]
            unfold namedP at h ⊢
            rw [takeWhile_stop hn]; exact h
          · rename_i h4
            rw [if_neg h4, signP_stop]
            exact h

theorem quoP_ne0 : ∀ {l : List UInt8} {acc : List UInt8} {n : Nat}, quoP l acc n ≠ .bad 0
  | [], acc, n => by simp [quoP]
  | [c], acc, n => by
    rw [quoP]
    split
    · split <;> simp
    · split
      · simp
      · split
        · simp [quoP]
        · simp
  | c :: d :: r, acc, n => by
    rw [quoP]
    split
    · split <;> simp
    · split
      · split
        · exact quoP_ne0
        · simp
      · split
        · exact quoP_ne0
        · simp
theorem lineR_join (m : List UInt8) : ∀ (f : Nat) (l : List UInt8) (i : Nat) (acc x : List Tk) (a : Nat), l.length ≤ f → lineR l i acc = (x, a, 0) → lineR (l ++ 32 :: m) i acc = lineR m (i + l.length + 1) x := by
  intro f
  induction f with
  | zero =>
    intro l i acc x a hl h
    have : l = [] := List.eq_nil_of_length_eq_zero (by omega)
    subst this
    rw [lineR_nil] at h
    injection h with h1 h2
    subst h1
    rw [List.nil_append, lineR_blank]; rfl
  | succ f ih =>
    intro l i acc x a hl h
    cases l with
    | nil =>
      rw [lineR_nil] at h
      injection h with h1 h2
      subst h1
      rw [List.nil_append, lineR_blank]; rfl
    | cons c r =>
      simp only [List.length_cons] at hl
      by_cases hc : c = 32
      · subst hc
        rw [lineR_blank] at h
        rw [List.cons_append, lineR_blank, ih r _ _ _ _ (by omega) h, List.length_cons]
        congr 1; omega
      · cases hw : wordP (c :: r) with
        | bad k =>
          rw [lineR_bad hc hw] at h
          injection h with h1 h2
          injection h2 with h2 h3
          subst h3
          exfalso
          rw [wordP] at hw
          have hne0 : ∀ l, ¬ nameErr l = 0 → ¬ nameErr l = 0 := fun _ h => h
          split at hw
          · unfold numP at hw; split at hw <;> cases hw
          · split at hw
            · unfold namedP at hw
              split at hw
              · cases hw
              · rename_i h0; injection hw with hw; exact h0 hw
            · split at hw
              · exact absurd hw (by
                  intro hq
                  have : ∀ {l : List UInt8} {acc : List UInt8} {n : Nat}, quoP l acc n ≠ .bad 0 := quoP_ne0
                  exact this hq)
              · split at hw
                · unfold namedP at hw
                  split at hw
                  · cases hw
                  · rename_i h0; injection hw with hw; exact h0 hw
                · split at hw <;> cases hw
        | ok kind t n =>
          have hn := wordP_n hw
          rw [lineR_ok hc hw] at h
          have hw2 := wordP_stop m hw
          rw [List.cons_append] at hw2 ⊢
          rw [lineR_ok hc hw2]
          split at h
          · injection h with h1 h2; injection h2 with h2 h3; cases h3
          · rename_i h300
            rw [if_neg h300]
            have hd : (c :: (r ++ 32 :: m)).drop n = (c :: r).drop n ++ 32 :: m := by
              rw [← List.cons_append, List.drop_append_of_le_length hn.2]
            rw [hd, ih _ _ _ _ _ (by rw [List.length_drop, List.length_cons]; omega) h, List.length_drop, List.length_cons]
            congr 1
            simp only [List.length_cons] at hn
            omega

def Tk.shift (d : Nat) (x : Tk) : Tk := ⟨x.kind, x.s, x.at_ + d⟩
theorem wordP_ne0 {l : List UInt8} : wordP l ≠ .bad 0 := by
  cases l with
  | nil => simp [wordP]
  | cons c r =>
    rw [wordP]
    split
    · unfold numP; split <;> simp
    · split
      · unfold namedP; split
        · simp
        · rename_i h; intro hh; injection hh with hh; exact h hh
      · split
        · exact quoP_ne0
        · split
          · unfold namedP; split
            · simp
            · rename_i h; intro hh; injection hh with hh; exact h hh
          · split <;> simp
/-- Behind other words, further on. -/
theorem lineR_shift (d : Nat) : ∀ (f : Nat) (m : List UInt8) (i : Nat) (acc z : List Tk) (a : Nat), m.length ≤ f → lineR m i acc = (z, a, 0) →
    ∃ y, z = acc ++ y ∧ a = 0 ∧ ∀ x : List Tk, x.length + y.length ≤ 300 → lineR m (i + d) x = (x ++ y.map (Tk.shift d), 0, 0) := by
  intro f
  induction f with
  | zero =>
    intro m i acc z a hl h
    have : m = [] := List.eq_nil_of_length_eq_zero (by omega)
    subst this
    rw [lineR_nil] at h
    injection h with h1 h2
    injection h2 with h2 h3
    exact ⟨[], by simp [h1], h2.symm, fun x _ => by rw [lineR_nil]; simp⟩
  | succ f ih =>
    intro m i acc z a hl h
    cases m with
    | nil =>
      rw [lineR_nil] at h
      injection h with h1 h2
      injection h2 with h2 h3
      exact ⟨[], by simp [h1], h2.symm, fun x _ => by rw [lineR_nil]; simp⟩
    | cons c r =>
      simp only [List.length_cons] at hl
      by_cases hc : c = 32
      · subst hc
        rw [lineR_blank] at h
        obtain ⟨y, h1, h2, h3⟩ := ih r _ _ _ _ (by omega) h
        refine ⟨y, h1, h2, fun x hx => ?_⟩
        rw [lineR_blank, ← h3 x hx]
        congr 1; omega
      · cases hw : wordP (c :: r) with
        | bad k =>
          rw [lineR_bad hc hw] at h
          injection h with h1 h2
          injection h2 with h2 h3
          subst h3
          exact absurd hw wordP_ne0
        | ok kind t n =>
          have hn := wordP_n hw
          rw [lineR_ok hc hw] at h
          split at h
          · injection h with h1 h2; injection h2 with h2 h3; cases h3
          · obtain ⟨y, h1, h2, h3⟩ := ih _ _ _ _ _ (by rw [List.length_drop, List.length_cons]; omega) h
            refine ⟨⟨kind, bsOf t, i⟩ :: y, by rw [h1, List.append_assoc]; rfl, h2, fun x hx => ?_⟩
            simp only [List.length_cons] at hx
            rw [lineR_ok hc hw, if_neg (by omega)]
            have h4 := h3 (x ++ [⟨kind, bsOf t, ((i + d : Nat) : Int)⟩]) (by rw [List.length_append, List.length_singleton]; omega)
            rw [show i + d + n = i + n + d from by omega, h4, List.append_assoc]
            rfl
/-- Line behind line. -/
theorem readP_join {s t u : ByteArray} {x y : List Tk} {a b : Nat} (hs : readP s = (x, a, 0)) (ht : readP t = (y, b, 0)) (hu : u.toList = s.toList ++ 32 :: t.toList) (hl : s.size + t.size + 1 ≤ 900) (hn : x.length + y.length ≤ 300) :
    readP u = (x ++ y.map (Tk.shift (s.size + 1)), 0, 0) := by
  rw [readP_R] at hs ht ⊢
  rw [if_neg (by omega)] at hs ht
  have hus : u.size = s.size + t.size + 1 := by
    rw [← toList_len, hu, List.length_append, List.length_cons, toList_len, toList_len]; omega
  rw [if_neg (by omega), hu, lineR_join _ _ _ _ _ _ _ (Nat.le_refl _) hs, toList_len]
  obtain ⟨y', h1, h2, h3⟩ := lineR_shift (s.size + 1) _ _ _ _ _ _ (Nat.le_refl _) ht
  rw [List.nil_append] at h1
  subst h1
  rw [show 0 + s.size + 1 = 0 + (s.size + 1) from by omega]
  exact h3 x hn
/-- Blanks. -/
theorem lineR_blanks (acc : List Tk) : ∀ (l : List UInt8) (i : Nat), lineR l i acc = lineR (l.drop (l.takeWhile fun c => (c.toNat : Int) == 32).length) (i + (l.takeWhile fun c => (c.toNat : Int) == 32).length) acc := by
  intro l
  induction l with
  | nil => intro i; rfl
  | cons c r ih =>
    intro i
    by_cases hc : c = 32
    · subst hc
      rw [List.takeWhile_cons_of_pos (by decide), List.length_cons, List.drop_succ_cons, lineR_blank, ih (i + 1)]
      congr 1; omega
    · rw [List.takeWhile_cons_of_neg (by
        simp only [beq_iff_eq]
        intro h
        exact hc (UInt8.toNat_inj.1 (by have : (32 : UInt8).toNat = 32 := rfl; omega)))]
      rfl
end Go.Proofs.YtbommoefpekalaaGreatDoor
namespace Go.Proofs.YtbommoefpekalaaGreatDoor
open Go.RowKit

def escB (b : UInt8) : Bool := b == 34 || b == 92
/-- The bytes that stand for one. -/
def esc1 (b : UInt8) : List UInt8 := if escB b then [92, b] else [b]
def escP (l : List UInt8) : List UInt8 := l.flatMap esc1
def escN (l : List UInt8) : Nat := l.countP escB
theorem escP_len (l : List UInt8) : (escP l).length = l.length + escN l := by
  induction l with
  | nil => rfl
  | cons b l ih =>
    simp only [escP, List.flatMap_cons, List.length_append, escN, List.countP_cons, List.length_cons] at ih ⊢
    rw [ih]
    unfold esc1
    cases h : escB b <;> simp <;> omega
theorem escP_snoc (l : List UInt8) (b : UInt8) : escP (l ++ [b]) = escP l ++ esc1 b := by simp [escP]
theorem escN_snoc (l : List UInt8) (b : UInt8) : escN (l ++ [b]) = escN l + if escB b then 1 else 0 := by
  simp [escN, List.countP_append, List.countP_cons]
theorem escN_zero (l : List UInt8) (h : escN l = 0) : escP l = l := by
  induction l with
  | nil => rfl
  | cons b l ih =>
    simp only [escN, List.countP_cons] at h ih
    have hb : escB b = false := by cases hq : escB b <;> simp [hq] at h ⊢
    show esc1 b ++ escP l = _
    rw [ih (by omega), esc1, if_neg (by simp [hb])]; rfl
theorem escN_count (l : List UInt8) : Lib.countByte l 34 + Lib.countByte l 92 = escN l := by
  unfold Lib.countByte escN
  induction l with
  | nil => rfl
  | cons b l ih =>
    simp only [List.count_cons, List.countP_cons, escB]
    by_cases h1 : b = 34
    · subst h1; simp; omega
    · by_cases h2 : b = 92
      · subst h2; simp; omega
      · simp [h1, h2]; exact ih
theorem escN_le (l : List UInt8) : escN l ≤ l.length := List.countP_le_length
theorem escB_yes (b : UInt8) : escB b = true ↔ (b.toNat = 34 ∨ b.toNat = 92) := by
  simp only [escB, Bool.or_eq_true, beq_iff_eq]
  constructor
  · rintro (h | h) <;> subst h <;> simp
  · rintro (h | h)
    · exact .inl (UInt8.toNat_inj.1 (by rw [h]; rfl))
    · exact .inr (UInt8.toNat_inj.1 (by rw [h]; rfl))
theorem escP_take (l : List UInt8) (k : Nat) : (escP (l.take k)).length ≤ l.length + escN l := by
  rw [← escP_len]
  have h : escP l = escP (l.take k) ++ escP (l.drop k) := by unfold escP; rw [← List.flatMap_append, List.take_append_drop]
  rw [h, List.length_append]; omega
/-- The bytes as cells. -/
def byC (l : List UInt8) : List Value := l.map fun b => .int .u8 (b.toNat : Int)
theorem byC_append (a b : List UInt8) : byC (a ++ b) = byC a ++ byC b := by simp [byC]
theorem byC_len (a : List UInt8) : (byC a).length = a.length := by simp [byC]
end Go.Proofs.YtbommoefpekalaaGreatDoor
namespace Go.Proofs.YtbommoefpekalaaGreatDoor
open Go.RowKit

/-- A text between quotes; nothing, where it is no text. -/
def quoteV (l : List UInt8) : List UInt8 := if textErr l = 0 then 34 :: (escP l ++ [34]) else []
def tkEq (x y : Tk) : Bool := x.kind == y.kind && (x.s.toList == y.s.toList && x.at_ == y.at_)
/-- A word's text, before it is held against what is read of it. -/
def speltT (x : Tk) : List UInt8 := if x.kind = 3 then quoteV x.s.toList else if x.kind = 4 then 63 :: x.s.toList else x.s.toList
/-- A word's text; is it one that is read? -/
def speltP (x : Tk) : List UInt8 × Bool :=
  if x.kind = 3 ∧ textErr x.s.toList ≠ 0 then ([], false)
  else match readP (bsOf (speltT x)) with
    | ([t], _, k) => if k = 0 then (speltT x, tkEq t ⟨x.kind, x.s, 0⟩) else ([], false)
    | _ => ([], false)
/-- Texts with a blank between. -/
def joinP (ls : List (List UInt8)) : List UInt8 := Lib.join ls [32]
theorem joinP_nil : joinP [] = [] := rfl
theorem joinP_one (x : List UInt8) : joinP [x] = x := Lib.join_one _ _
theorem joinP_cons (x y : List UInt8) (r : List (List UInt8)) : joinP (x :: y :: r) = x ++ 32 :: joinP (y :: r) := by
  unfold joinP
  rw [Lib.join_cons, Lib.join_cons]
  simp [Lib.joinTail]
theorem joinP_len (m : Nat) : ∀ ls : List (List UInt8), (∀ l ∈ ls, l.length ≤ m) → (joinP ls).length ≤ ls.length * (m + 1)
  | [], _ => by simp [joinP_nil]
  | [x], h => by rw [joinP_one]; have := h x (by simp); simp; omega
  | x :: y :: r, h => by
    rw [joinP_cons]
    have h1 := h x (by simp)
    have h2 := joinP_len m (y :: r) (fun l hl => h l (List.mem_cons_of_mem _ hl))
    simp only [List.length_append, List.length_cons] at h2 ⊢
    rw [Nat.add_mul (r.length + 1) 1]
    omega
def spellP (xs : List Tk) : List UInt8 × Int :=
  if 300 < xs.length then ([], 4)
  else if xs.all (fun x => (speltP x).2) = false then ([], 1)
  else if 900 < (joinP (xs.map fun x => (speltP x).1)).length then ([], 4)
  else (joinP (xs.map fun x => (speltP x).1), 0)
theorem escP_bound (l : List UInt8) : (escP l).length ≤ 2 * l.length := by have := escP_len l; have := escN_le l; omega
theorem quoteV_len (l : List UInt8) : (quoteV l).length ≤ 122 := by
  unfold quoteV
  split
  · rename_i h
    unfold textErr at h
    split at h
    · cases h
    · have := escP_bound l
      simp only [List.length_cons, List.length_append, List.length_nil]; omega
  · simp
theorem speltP_len (x : Tk) : (speltP x).1.length ≤ 900 := by
  unfold speltP
  split
  · simp
  · split
    · rename_i t a k hq
      split
      · rename_i hk
        subst hk
        rw [readP_R] at hq
        split at hq
        · injection hq with h1 h2; cases h1
        · rename_i h9
          rw [show (bsOf (speltT x)).size = (speltT x).length by show (speltT x).toArray.size = _; simp] at h9
          show (speltT x).length ≤ 900
          omega
      · simp
    · simp
end Go.Proofs.YtbommoefpekalaaGreatDoor
