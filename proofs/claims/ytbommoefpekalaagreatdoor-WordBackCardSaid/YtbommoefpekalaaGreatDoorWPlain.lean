/-
  PLAIN WORDS: the words of a line, on lists of bytes. No program in sight.
-/
import Derived.Test.YtbommoefpekalaaGreatDoorBase
namespace Go.Proofs.YtbommoefpekalaaGreatDoor
open Go.RowKit

def digB (c : UInt8) : Bool := digitI (c.toNat : Int)
def letB (c : UInt8) : Bool := letterI (c.toNat : Int)
/-- What begins here: wrong, or a word: its kind, its text, how many bytes it takes. -/
inductive Wd where
  | bad (k : Int)
  | ok (kind : Int) (t : List UInt8) (n : Nat)
def numP (l : List UInt8) : Wd :=
  if 19 < ((l.takeWhile digB).dropWhile (· == 48)).length then .bad 4
  else .ok 2 (if ((l.takeWhile digB).dropWhile (· == 48)) = [] then [48] else (l.takeWhile digB).dropWhile (· == 48)) (l.takeWhile digB).length
def namedP (kind : Int) (l : List UInt8) (x : Nat) : Wd :=
  if nameErr (l.takeWhile nameB) = 0 then .ok kind (l.takeWhile nameB) ((l.takeWhile nameB).length + x) else .bad (nameErr (l.takeWhile nameB))
/-- A text behind its first quote; so many bytes were taken. -/
def quoP : List UInt8 → List UInt8 → Nat → Wd
  | [], _, _ => .bad 1
  | c :: r, acc, n =>
    if c = 34 then (if 60 < acc.length then .bad 4 else .ok 3 acc (n + 1))
    else if c = 92 then
      match r with
      | [] => .bad 1
      | d :: r' => if d = 34 ∨ d = 92 then quoP r' (acc ++ [d]) (n + 2) else .bad 1
    else if plainB c then quoP r (acc ++ [c]) (n + 1) else .bad 1
def sign1 (a : UInt8) : Bool := a == 40 || a == 41 || a == 91 || a == 93 || a == 123 || a == 125 || a == 44 || a == 46 || a == 33 || a == 43 || a == 45 || a == 42
def signP : List UInt8 → List UInt8
  | [] => []
  | a :: r =>
    if sign1 a then [a]
    else if a = 58 then (if r.head? = some 58 then [58, 58] else [58])
    else if a = 60 then (if r.head? = some 61 then [60, 61] else [60])
    else if (a = 61 ∨ a = 38 ∨ a = 124) ∧ r.head? = some a then [a, a]
    else []
def wordP (l : List UInt8) : Wd :=
  match l with
  | [] => .bad 1
  | c :: r =>
    if digB c then numP l
    else if letB c then namedP 1 l 0
    else if c = 34 then quoP r [] 1
    else if c = 63 then namedP 4 r 1
    else if signP l = [] then .bad 1 else .ok 5 (signP l) (signP l).length

/-- A token. -/
structure Tk where
  kind : Int
  s : ByteArray
  at_ : Int
def bsOf (l : List UInt8) : ByteArray := ⟨l.toArray⟩
/-- The words of a line, of which so many bytes have been read: they, where, what is wrong. -/
def lineP : Nat → List UInt8 → Nat → List Tk → List Tk × Nat × Int
  | 0, _, _, acc => (acc, 0, 0)
  | f + 1, l, i, acc =>
    match l with
    | [] => (acc, 0, 0)
    | c :: r =>
      if c = 32 then lineP f r (i + 1) acc
      else match wordP l with
        | .bad k => ([], i, k)
        | .ok kind t n => if acc.length = 300 then ([], i, 4) else lineP f (l.drop n) (i + n) (acc ++ [⟨kind, bsOf t, i⟩])
/-- What reading a line tells. -/
def readP (s : ByteArray) : List Tk × Nat × Int := if 900 < s.size then ([], 0, 4) else lineP s.size s.toList 0 []

theorem quoP_n : ∀ {l : List UInt8} {acc : List UInt8} {n : Nat} {kind : Int} {t : List UInt8} {m : Nat}, quoP l acc n = .ok kind t m → n < m ∧ m ≤ n + l.length ∧ kind = 3
  | [], acc, n, kind, t, m, h => by simp [quoP] at h
  | [c], acc, n, kind, t, m, h => by
    rw [quoP] at h
    split at h
    · split at h
      · cases h
      · injection h with h1 h2 h3; subst h1 h2 h3; simp
    · split at h
      · cases h
      · split at h
        · rw [quoP] at h; cases h
        · cases h
  | c :: d :: r, acc, n, kind, t, m, h => by
    rw [quoP] at h
    split at h
    · split at h
      · cases h
      · injection h with h1 h2 h3; subst h1 h2 h3; simp
    · split at h
      · split at h
        · have := quoP_n h; simp only [List.length_cons]; omega
        · cases h
      · split at h
        · have := quoP_n h; simp only [List.length_cons] at this ⊢; omega
        · cases h
end Go.Proofs.YtbommoefpekalaaGreatDoor
