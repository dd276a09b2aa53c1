/-
  PLAIN WORDS: the words of an expression.
  PLAIN WORDS: the pieces of an expression; other names. PLAIN LAW for MoveApart. PLAIN LAW for MoveApart. PLAIN WORDS: pieces in the order of their names; a name that stands there twice. PLAIN WORDS: the order of lists of nodes; values, piece by piece. PLAIN WORDS: values, piece by piece; a value and what the reader of values says. PLAIN LAW: what is moved stays what it is; there and back.
  PLAIN LAWS: which words are spelt so that they are read again.
  PLAIN LAWS: the words of an expression, by its parts.
  PLAIN LAWS: what the printer writes is read as what it was.
  PLAIN LAW: the words of an expression have just that expression.
  PLAIN LAW: the words of an expression have just that expression: by its parts.
  PLAIN LAW: the words of an expression have just that expression: whole.
  PLAIN WORDS: a right word. PLAIN LAWS: the parser of phrases: how much is made of how many words; its nodes are small.
  PLAIN LAWS: the words of an expression can be spelt.
  LISTS OF NODES IN MEMORY: in none of some blocks; lists of such lists.
  LISTS OF NODES IN MEMORY, off the row into which their slices are collected.
-/
import Derived.Test.YtbggbcnfkcadjaaGreatDoorPe04
import Derived.Lib.ItoaNum
import Derived.Test.YtbggbcnfkcadjaaGreatDoorPe01
import Derived.Sort.Walk0
import Derived.Sort.Statements
import Derived.Shelf.SlSortCmp.Insertion
import Derived.Test.YtbggbcnfkcadjaaGreatDoorPe03
import Derived.Lib.SliceRun
import Derived.Laws.OwnMore
import Derived.Maps.AppendAt
namespace Go.Proofs.YtbggbcnfkcadjaaGreatDoor
open Go.RowKit
def lvlW (o : Int) : Nat :=
 if o = 13 then 0 else if o = 12 then 1 else if o = 11 then 2
 else if o = 14 ∨ o = 15 ∨ o = 16 ∨ o = 20 ∨ o = 21 ∨ o = 23 ∨ o = 24 then 3
 else if o = 17 ∨ o = 18 then 4 else if o = 19 then 5 else if o = 9 ∨ o = 10 then 6
 else if o = 22 ∨ o = 25 ∨ o = 26 ∨ o = 27 then 7 else 8
def tNm (l : List UInt8) : Tk := ⟨1, bsOf l, 0⟩
def tSg (l : List UInt8) : Tk := ⟨5, bsOf l, 0⟩
def firstN : List Nd → Bool
 | [] => false
 | n :: e => if lvlW n.op = 7 then firstN e else n.op == 2 && decide (0 ≤ n.n)
def numT (n : Int) : List Tk := if n < 0 then [tSg [45], ⟨2, bsOf (Lib.itoa (-n)), 0⟩] else [⟨2, bsOf (Lib.itoa n), 0⟩]
def varT (s : ByteArray) : List Tk := match s.toList with
 | 63 :: l => [⟨4, bsOf l, 0⟩]
 | _ => [⟨1, s, 0⟩]
end Go.Proofs.YtbggbcnfkcadjaaGreatDoor
namespace Go.Proofs.YtbggbcnfkcadjaaGreatDoor
open Go.RowKit
end Go.Proofs.YtbggbcnfkcadjaaGreatDoor
namespace Go.Proofs.YtbggbcnfkcadjaaGreatDoor
open Go.RowKit
end Go.Proofs.YtbggbcnfkcadjaaGreatDoor
namespace Go.Proofs.YtbggbcnfkcadjaaGreatDoor
open Go.RowKit Go.Sort
end Go.Proofs.YtbggbcnfkcadjaaGreatDoor
namespace Go.Proofs.YtbggbcnfkcadjaaGreatDoor
open Go.RowKit Go.Sort
end Go.Proofs.YtbggbcnfkcadjaaGreatDoor
namespace Go.Proofs.YtbggbcnfkcadjaaGreatDoor
open Go.RowKit Go.Sort
end Go.Proofs.YtbggbcnfkcadjaaGreatDoor
namespace Go.Proofs.YtbggbcnfkcadjaaGreatDoor
open Go.RowKit Go.Sort
theorem map_id {α : Type} {f : α → α} : ∀ (l : List α), (∀ x ∈ l, f x = x) → l.map f = l
 | [], _ => rfl
 | x :: l, h => by rw [List.map_cons, h x (by simp), map_id l fun y hy => h y (by simp [hy])]
end Go.Proofs.YtbggbcnfkcadjaaGreatDoor
namespace Go.Proofs.YtbggbcnfkcadjaaGreatDoor
open Go.RowKit
theorem bsOf_list (l : List UInt8) : (bsOf l).toList = l := by rw [ByteArray.toList_eq]; rfl
theorem bsOf_toList (s : ByteArray) : bsOf s.toList = s := by rw [ByteArray.toList_eq]; rfl
theorem bsOf_sz (l : List UInt8) : (bsOf l).size = l.length := by rw [← toList_len, bsOf_list]
theorem lineR_acc : ∀ (f : Nat) (l : List UInt8) (i : Nat) (acc q : List Tk) (a : Nat), l.length ≤ f → lineR l i acc = (q, a, 0) → ∃ y, q = acc ++ y ∧ ∀ t ∈ y, (i : Int) ≤ t.at_ := by
 intro f
 induction f with
 | zero =>
   intro l i acc q a hl h
   have : l = [] := List.eq_nil_of_length_eq_zero (by omega)
   subst this
   rw [lineR_nil] at h
   injection h with h1 h2
   exact ⟨[], by simp [h1], fun t ht => by cases ht⟩
 | succ f ih =>
   intro l i acc q a hl h
   cases l with
   | nil =>
     rw [lineR_nil] at h
     injection h with h1 h2
     exact ⟨[], by simp [h1], fun t ht => by cases ht⟩
   | cons c r =>
     simp only [List.length_cons] at hl
     by_cases hc : c = 32
     · subst hc
       rw [lineR_blank] at h
       obtain ⟨y, h1, h2⟩ := ih _ _ _ _ _ (by omega) h
       exact ⟨y, h1, fun t ht => by have := h2 t ht; omega⟩
     · cases hw : wordP (c :: r) with
       | bad k =>
         rw [lineR_bad hc hw] at h
         injection h with h1 h2
         injection h2 with h2 h3
         subst h3
         exact absurd hw wordP_ne0
       | ok kind t n =>
         have hn := wordP_n hw
         rw [lineR_ok hc hw] at h
         split at h
         · injection h with h1 h2; injection h2 with h2 h3; cases h3
         · obtain ⟨y, h1, h2⟩ := ih _ _ _ _ _ (by rw [List.length_drop, List.length_cons]; omega) h
           refine ⟨⟨kind, bsOf t, i⟩ :: y, by rw [h1, List.append_assoc]; rfl, fun t' ht => ?_⟩
           rcases List.mem_cons.1 ht with rfl | ht
           · exact Int.le_refl _
           · have := h2 t' ht; omega
theorem read_one {c : UInt8} {r : List UInt8} {k : Int} {t : List UInt8} (hc : c ≠ 32) (hw : wordP (c :: r) = .ok k t (r.length + 1)) (hl : r.length + 1 ≤ 900) : readP (bsOf (c :: r)) = ([⟨k, bsOf t, 0⟩], 0, 0) := by
 rw [readP_R, bsOf_sz, if_neg (by simp; omega), bsOf_list, lineR_ok hc hw, if_neg (by simp), List.drop_eq_nil_of_le (by simp), lineR_nil]
 rfl
theorem read_one_inv {l : List UInt8} {t : Tk} {a : Nat} (h : readP (bsOf l) = ([t], a, 0)) (ht : t.at_ = 0) : ∃ c r n, l = c :: r ∧ c ≠ 32 ∧ wordP (c :: r) = .ok t.kind t.s.toList n ∧ l.length ≤ 900 := by
 rw [readP_R, bsOf_sz] at h
 split at h
 · injection h with h1 h2; cases h1
 · rename_i h9
   rw [bsOf_list] at h
   cases l with
   | nil => rw [lineR_nil] at h; injection h with h1 h2; cases h1
   | cons c r =>
     by_cases hc : c = 32
     · subst hc
       rw [lineR_blank] at h
       obtain ⟨y, h1, h2⟩ := lineR_acc _ _ _ _ _ _ (Nat.le_refl _) h
       rw [List.nil_append] at h1
       have := h2 t (by rw [← h1]; simp)
       omega
     · cases hw : wordP (c :: r) with
       | bad k =>
         rw [lineR_bad hc hw] at h
         injection h with h1 h2; cases h1
       | ok kind tx n =>
         rw [lineR_ok hc hw, if_neg (by simp)] at h
         obtain ⟨y, h1, _⟩ := lineR_acc _ _ _ _ _ _ (Nat.le_refl _) h
         rw [List.nil_append] at h1
         injection h1 with h1 h3
         subst h1
         exact ⟨c, r, n, rfl, hc, by rw [bsOf_list]; exact hw, by omega⟩
theorem plain_all {l : List UInt8} (h : textErr l = 0) : l.length ≤ 60 ∧ l.all plainB = true := by
 unfold textErr at h
 split at h
 · cases h
 · split at h
   · cases h
   · rename_i a b; exact ⟨by omega, Bool.of_not_eq_false b⟩
theorem quoP_esc : ∀ (s acc : List UInt8) (n : Nat), s.all plainB = true → acc.length + s.length ≤ 60 → quoP (escP s ++ [34]) acc n = .ok 3 (acc ++ s) (n + (escP s).length + 1)
 | [], acc, n, _, hl => by
   show quoP [34] acc n = _
   rw [quoP_cons, if_pos rfl, if_neg (by simp at hl; omega)]
   simp [escP]
 | b :: s, acc, n, hp, hl => by
   simp only [List.all_cons, Bool.and_eq_true] at hp
   simp only [List.length_cons] at hl
   have ih := quoP_esc s (acc ++ [b]) (n + (esc1 b).length) hp.2 (by simp; omega)
   rw [List.append_assoc] at ih
   have e : escP (b :: s) = esc1 b ++ escP s := rfl
   rw [e, List.append_assoc, List.length_append]
   rw [show n + ((esc1 b).length + (escP s).length) + 1 = n + (esc1 b).length + (escP s).length + 1 by omega]
   have ih2 : quoP (escP s ++ [34]) (acc ++ [b]) (n + (esc1 b).length) = .ok 3 (acc ++ b :: s) (n + (esc1 b).length + (escP s).length + 1) := ih
   rw [← ih2]
   by_cases hq : escB b = true
   · have hb : b = 34 ∨ b = 92 := by simpa [escB] using hq
     have e1 : esc1 b = [92, b] := by rw [esc1, if_pos hq]
     rw [e1, List.cons_append, quoP_cons, if_neg (by decide), if_pos rfl]
     show (if b = 34 ∨ b = 92 then quoP ([] ++ (escP s ++ [34])) (acc ++ [b]) (n + 2) else .bad 1) = _
     rw [if_pos hb]; rfl
   · have hb : ¬ (b = 34 ∨ b = 92) := by simpa [escB] using hq
     have e1 : esc1 b = [b] := by rw [esc1, if_neg hq]
     rw [e1, List.cons_append, List.nil_append, quoP_cons, if_neg (fun h => hb (.inl h)), if_neg (fun h => hb (.inr h)), if_pos hp.1]; rfl
theorem speltP_text {x : Tk} (h3 : x.kind = 3) : speltP x = if textErr x.s.toList = 0 then (quoteV x.s.toList, true) else ([], false) := by
 by_cases he : textErr x.s.toList = 0
 · rw [if_pos he, speltP, if_neg (fun h => h.2 he)]
   obtain ⟨hl, ha⟩ := plain_all he
   have hq : speltT x = 34 :: (escP x.s.toList ++ [34]) := by rw [speltT, if_pos h3, quoteV, if_pos he]
   have hw : wordP (34 :: (escP x.s.toList ++ [34])) = .ok 3 x.s.toList ((escP x.s.toList ++ [34]).length + 1) := by
     rw [wordP, if_neg (by decide), if_neg (by decide), if_pos rfl, quoP_esc _ _ _ ha (by simpa using hl)]
     simp; omega
   have hle := escP_bound x.s.toList
   have hr := read_one (by decide) hw (by simp; omega)
   rw [hq, hr]
   show ((34 :: (escP x.s.toList ++ [34]), tkEq ⟨3, bsOf x.s.toList, 0⟩ ⟨x.kind, x.s, 0⟩) : List UInt8 × Bool) = _
   rw [quoteV, if_pos he, tkEq, h3, bsOf_toList]
   simp
 · rw [if_neg he, speltP, if_pos ⟨h3, he⟩]
theorem tw_self {p : UInt8 → Bool} : ∀ l : List UInt8, l.all p = true → l.takeWhile p = l
 | [], _ => rfl
 | c :: r, h => by
   simp only [List.all_cons, Bool.and_eq_true] at h
   rw [List.takeWhile_cons_of_pos h.1, tw_self r h.2]
theorem nameErr_zero {l : List UInt8} (h : nameErr l = 0) : l.takeWhile nameB = l ∧ l.length ≤ 20 ∧ ∃ c r, l = c :: r ∧ letB c = true := by
 cases l with
 | nil => cases h
 | cons c r =>
   have e : nameErr (c :: r) = if letterI (c.toNat : Int) = false then 1 else if (c :: r).all nameB = false then 1 else if 20 < (c :: r).length then 4 else 0 := rfl
   rw [e] at h
   split at h
   · cases h
   · split at h
     · cases h
     · split at h
       · cases h
       · rename_i h1 h2 h3
         refine ⟨?_, by omega, c, r, rfl, by simpa [letB] using h1⟩
         exact tw_self _ (Bool.of_not_eq_false h2)
theorem tkEq_iff (t x : Tk) : tkEq t x = true ↔ t.kind = x.kind ∧ t.s.toList = x.s.toList ∧ t.at_ = x.at_ := by simp [tkEq]
theorem speltP_iff (x : Tk) (h3 : ¬ x.kind = 3) : (speltP x).2 = true ↔ ∃ t a, readP (bsOf (speltT x)) = ([t], a, 0) ∧ t.kind = x.kind ∧ t.s.toList = x.s.toList ∧ t.at_ = 0 := by
 rw [speltP, if_neg (fun h => h3 h.1)]
 constructor
 · intro h
   split at h
   · rename_i t a k hq
     split at h
     · rename_i hk
       subst hk
       exact ⟨t, a, hq, (tkEq_iff _ _).1 h⟩
     · cases h
   · cases h
 · rintro ⟨t, a, hq, hh⟩
   rw [hq]
   exact (tkEq_iff _ _).2 hh
theorem speltP_slot {x : Tk} (h4 : x.kind = 4) : (speltP x).2 = decide (nameErr x.s.toList = 0) := by
 have h3 : ¬ x.kind = 3 := by omega
 have hT : speltT x = 63 :: x.s.toList := by rw [speltT, if_neg h3, if_pos h4]
 rw [Bool.eq_iff_iff, decide_eq_true_iff, speltP_iff x h3, hT]
 have hw : wordP (63 :: x.s.toList) = namedP 4 x.s.toList 1 := by rw [wordP, if_neg (by decide), if_neg (by decide), if_neg (by decide), if_pos rfl]
 constructor
 · rintro ⟨t, a, hq, h1, h2, h0⟩
   obtain ⟨c, r, n, he, _, hww, _⟩ := read_one_inv hq h0
   rw [← he, hw, h1, h2] at hww
   unfold namedP at hww
   split at hww
   · rename_i hn
     injection hww with _ e2 _
     rwa [e2] at hn
   · cases hww
 · intro hn
   obtain ⟨h1, h2, _⟩ := nameErr_zero hn
   have hww : wordP (63 :: x.s.toList) = .ok 4 x.s.toList (x.s.toList.length + 1) := by rw [hw, namedP, h1, if_pos hn]
   exact ⟨_, _, read_one (by decide) hww (by omega), h4.symm, bsOf_list _, rfl⟩
theorem wordP_kind {c : UInt8} {r : List UInt8} {k : Int} {t : List UInt8} {n : Nat} (h : wordP (c :: r) = .ok k t n) (h3 : ¬ k = 3) (h4 : ¬ k = 4) : c ≠ 34 ∧ c ≠ 63 ∧ t.length ≤ n ∧ (n = (c :: r).length → t = c :: r → (c :: r).length ≤ 20) := by
 have e34 : digB 34 = false := by decide
 have e34' : letB 34 = false := by decide
 have e63 : digB 63 = false := by decide
 have e63' : letB 63 = false := by decide
 have l34 : c ≠ 34 := by
   rintro rfl
   rw [wordP, if_neg (by simp [e34]), if_neg (by simp [e34']), if_pos rfl] at h
   exact h3 (quoP_n h).2.2
 have l63 : c ≠ 63 := by
   rintro rfl
   rw [wordP, if_neg (by simp [e63]), if_neg (by simp [e63']), if_neg (by decide), if_pos rfl] at h
   unfold namedP at h
   split at h
   · injection h with e1; exact h4 e1.symm
   · cases h
 refine ⟨l34, l63, ?_⟩
 rw [wordP] at h
 split at h
 · unfold numP at h
   split at h
   · cases h
   · rename_i hd h19
     injection h with e1 e2 e3
     subst e2 e3
     have hdw : (((c :: r).takeWhile digB).dropWhile (· == 48)).length ≤ ((c :: r).takeWhile digB).length := (List.dropWhile_suffix _).length_le
     have hpos := takeWhile_pos (r := r) hd
     split
     · exact ⟨by simpa using hpos, fun _ h => by rw [← h]; simp⟩
     · exact ⟨hdw, fun _ h => by rw [← h]; omega⟩
 · split at h
   · unfold namedP at h
     split at h
     · rename_i hn
       injection h with e1 e2 e3
       subst e2 e3
       exact ⟨by omega, fun _ h => by rw [← h]; exact (nameErr_zero hn).2.1⟩
     · cases h
   · try rw [if_neg l34, if_neg l63] at h
     split at h
     · cases h
     · injection h with e1 e2 e3
       subst e2 e3
       refine ⟨Nat.le_refl _, fun _ h => ?_⟩
       rw [← h]
       have : ∀ l : List UInt8, (signP l).length ≤ 20 := by
         intro l
         cases l with
         | nil => simp [signP]
         | cons a r =>
           rw [signP_cons]
           split
           · simp
           · split
             · split <;> simp
             · split
               · split <;> simp
               · split <;> simp
       exact this _
def bareP (kind : Int) (l : List UInt8) : Bool :=
 match l with
 | [] => false
 | c :: r => !(c == 32 || c == 34 || c == 63) && (match wordP (c :: r) with
   | .ok k t n => decide (n = (c :: r).length) && decide (k = kind) && decide (t = c :: r)
   | .bad _ => false)
theorem speltP_bare {x : Tk} (h3 : ¬ x.kind = 3) (h4 : ¬ x.kind = 4) : (speltP x).2 = bareP x.kind x.s.toList := by
 have hT : speltT x = x.s.toList := by rw [speltT, if_neg h3, if_neg h4]
 rw [Bool.eq_iff_iff, speltP_iff x h3, hT]
 constructor
 · rintro ⟨t, a, hq, h1, h2, h0⟩
   obtain ⟨c, r, n, he, hc, hw, hl⟩ := read_one_inv hq h0
   rw [h1, h2] at hw
   obtain ⟨k1, k2, k3, _⟩ := wordP_kind hw h3 h4
   have hn := wordP_n hw
   rw [he] at k3 ⊢
   rw [he] at hw
   have hnl : n = (c :: r).length := by omega
   simp only [bareP, hw]
   simp [hc, k1, k2, hnl]
 · intro h
   cases hs : x.s.toList with
   | nil => rw [hs] at h; cases h
   | cons c r =>
     rw [hs] at h
     simp only [bareP, Bool.and_eq_true] at h
     obtain ⟨hc, h⟩ := h
     split at h
     · rename_i k t n hw
       simp only [Bool.and_eq_true, decide_eq_true_eq] at h
       obtain ⟨⟨e1, e2⟩, e3⟩ := h
       subst e1 e2 e3
       have h20 := (wordP_kind hw h3 h4).2.2.2 rfl rfl
       have hc32 : c ≠ 32 := by rintro rfl; simp at hc
       simp only [List.length_cons] at hw h20
       exact ⟨_, _, read_one hc32 hw (by omega), rfl, by rw [bsOf_list], rfl⟩
     · cases h
theorem speltP_fst {x : Tk} (h : (speltP x).2 = true) : (speltP x).1 = speltT x := by
 unfold speltP at h ⊢
 split
 · rename_i h'; rw [if_pos h'] at h; cases h
 · rename_i h'
   rw [if_neg h'] at h
   split at h
   · rename_i hq
     split at h
     · rename_i hk; simp only [hk, if_true]
     · cases h
   · cases h
end Go.Proofs.YtbggbcnfkcadjaaGreatDoor
namespace Go.Proofs.YtbggbcnfkcadjaaGreatDoor
open Go.RowKit
def leafT (n : Nd) : List Tk :=
 if n.op = 1 then [tNm (if n.n = 1 then wTrue else wFalse)]
 else if n.op = 2 then numT n.n
 else if n.op = 3 then [⟨3, n.s, 0⟩]
 else if n.op = 4 then [⟨1, n.s, 0⟩, tSg wCol, ⟨3, n.t, 0⟩]
 else varT n.s
end Go.Proofs.YtbggbcnfkcadjaaGreatDoor
namespace Go.Proofs.YtbggbcnfkcadjaaGreatDoor
open Go.RowKit
def Ps (a : PT) (ts : List Tk) (e : List Nd) (r : List Tk) : Prop := ∃ f, pa f a ts = .ok e r
theorem pa_up {f g : Nat} {a : PT} {ts : List Tk} {e : List Nd} {r : List Tk} (h : pa f a ts = .ok e r) (hg : f ≤ g) : pa g a ts = .ok e r := by
 rw [← h]; exact pa_more hg (by rw [h]; intro r h; cases h)
theorem Ps.ch {l : Nat} {ts : List Tk} {e e2 : List Nd} {r r2 : List Tk} (h1 : Ps (subT l) ts e r) (h2 : Ps (.lp l e) r e2 r2) : Ps (.ch l) ts e2 r2 := by
 obtain ⟨f, h1⟩ := h1
 obtain ⟨g, h2⟩ := h2
 refine ⟨max f g + 1, ?_⟩
 show (pa (max f g) (subT l) ts).bind _ = _
 rw [pa_up h1 (Nat.le_max_left ..)]
 exact pa_up h2 (Nat.le_max_right ..)
theorem Ps.lp_end {l : Nat} {e : List Nd} {r : List Tk} (h : ∀ t q, r = t :: q → chOp l t = 0) : Ps (.lp l e) r e r := by
 refine ⟨1, ?_⟩
 cases r with
 | nil => rfl
 | cons t q =>
   show (if chOp l t = 0 then _ else _) = _
   rw [if_pos (h t q rfl)]
theorem Ps.lp_go {l : Nat} {e e2 e3 : List Nd} {t : Tk} {q r r3 : List Tk} (h : chOp l t ≠ 0) (h1 : Ps (subT l) q e2 r) (h2 : Ps (.lp l (opX (chOp l t) (e ++ e2))) r e3 r3) : Ps (.lp l e) (t :: q) e3 r3 := by
 obtain ⟨f, h1⟩ := h1
 obtain ⟨g, h2⟩ := h2
 refine ⟨max f g + 1, ?_⟩
 show (if chOp l t = 0 then _ else (pa (max f g) (subT l) q).bind _) = _
 rw [if_neg h, pa_up h1 (Nat.le_max_left ..)]
 exact pa_up h2 (Nat.le_max_right ..)
theorem Ps.rel_end {ts : List Tk} {e : List Nd} {r : List Tk} (h1 : Ps (.ch 4) ts e r) (h : relOp r = 0 ∧ relWd r = 0) : Ps .rel ts e r := by
 obtain ⟨f, h1⟩ := h1
 refine ⟨f + 1, ?_⟩
 show (pa f (.ch 4) ts).bind _ = _
 rw [h1]
 show (if relOp r ≠ 0 then _ else if relWd r ≠ 0 then _ else _) = _
 rw [if_neg (by simp [h.1]), if_neg (by simp [h.2])]
def NoSign (ts : List Tk) : Prop := hdS [33] ts = false ∧ (hdS [45] ts = true → hdK 2 ts.tail = true)
theorem Ps.sign_at {ts : List Tk} {e e2 : List Nd} {r r2 : List Tk} (hn : NoSign ts) (h1 : Ps .atom ts e r) (h2 : Ps (.po e) r e2 r2) : Ps .sign ts e2 r2 := by
 obtain ⟨f, h1⟩ := h1
 obtain ⟨g, h2⟩ := h2
 refine ⟨max f g + 1, ?_⟩
 show (if hdS [33] ts = true then _ else if hdS [45] ts = true ∧ hdK 2 ts.tail = false then _ else (pa (max f g) .atom ts).bind _) = _
 rw [if_neg (by rw [hn.1]; simp), if_neg (by rintro ⟨h3, h4⟩; rw [hn.2 h3] at h4; simp at h4), pa_up h1 (Nat.le_max_left ..)]
 exact pa_up h2 (Nat.le_max_right ..)
theorem Ps.po_end {e : List Nd} {r : List Tk} (h : hdS [46] r = false) : Ps (.po e) r e r := by
 refine ⟨1, ?_⟩
 show (if hdS [46] r = true then _ else _) = _
 rw [if_neg (by rw [h]; simp)]
theorem Ps.whole_ch {ts : List Tk} {e : List Nd} {r : List Tk} (hn : hdN wIf ts = true → hdS wCol ts.tail = true) (h : Ps (.ch 1) ts e r) : Ps .whole ts e r := by
 obtain ⟨f, h⟩ := h
 refine ⟨f + 1, ?_⟩
 show (if hdN wIf ts = true ∧ hdS wCol ts.tail = false then _ else _) = _
 rw [if_neg (by rintro ⟨h1, h2⟩; rw [hn h1] at h2; simp at h2), h]
theorem Ps.leaf {ts : List Tk} {e : List Nd} {r : List Tk} (h : ∀ wh se re, atomR wh se re ts = .ok e r) : Ps .atom ts e r := ⟨1, h _ _ _⟩
theorem Ps.round {t c : Tk} {q r : List Tk} {e : List Nd} (ht : isS [40] t = true) (h : Ps .whole q e (c :: r)) (hc : isS [41] c = true) : Ps .atom (t :: q) e r := by
 obtain ⟨f, h⟩ := h
 refine ⟨f + 1, ?_⟩
 have h5 : t.kind = 5 ∧ t.s.toList = [40] := by simpa [isS] using ht
 show atomR _ _ _ (t :: q) = _
 unfold atomR
 dsimp only
 rw [if_neg (by rw [h5.1]; decide), if_neg (by rw [h5.1]; decide), if_neg (by rw [h5.1]; decide), if_neg (by rw [h5.1]; decide), if_neg (by unfold isS; rw [h5.2]; simp), if_pos ht, h]
 show (if isS [41] c = true then _ else _) = _
 rw [if_pos hc]
theorem Ps.set {t : Tk} {q r : List Tk} {e : List Nd} (ht : isS [91] t = true) (h : Ps (.se []) q e r) : Ps .atom (t :: q) e r := by
 obtain ⟨f, h⟩ := h
 refine ⟨f + 1, ?_⟩
 have h5 : t.kind = 5 ∧ t.s.toList = [91] := by simpa [isS] using ht
 show atomR _ _ _ (t :: q) = _
 unfold atomR
 dsimp only
 rw [if_neg (by rw [h5.1]; decide), if_neg (by rw [h5.1]; decide), if_neg (by rw [h5.1]; decide), if_neg (by rw [h5.1]; decide), if_neg (by unfold isS; rw [h5.2]; simp), if_neg (by unfold isS; rw [h5.2]; simp), if_pos ht, h]
theorem Ps.se_end {ps : List (List Nd)} {t : Tk} {r : List Tk} (ht : isS [93] t = true) : Ps (.se ps) (t :: r) (⟨5, ps.length, ⟨#[]⟩, ⟨#[]⟩⟩ :: ps.flatten) r := by
 refine ⟨1, ?_⟩
 show (if hdS [93] (t :: r) = true then _ else _) = _
 rw [if_pos (show hdS [93] (t :: r) = true from ht)]; rfl
theorem Ps.re_end {ps : List (List Nd)} {last : ByteArray} {t : Tk} {r : List Tk} (ht : isS [125] t = true) : Ps (.re ps last) (t :: r) (⟨6, ps.length, ⟨#[]⟩, ⟨#[]⟩⟩ :: ps.flatten) r := by
 refine ⟨1, ?_⟩
 show (if hdS [125] (t :: r) = true then _ else _) = _
 rw [if_pos (show hdS [125] (t :: r) = true from ht)]; rfl
def Fl (k : Nat) (r : List Tk) : Prop := ∀ t q, r = t :: q → isS wCol t = false ∧ isS [40] t = false ∧ (k ≤ 7 → isS [46] t = false) ∧ (k ≤ 5 → chOp 5 t = 0) ∧ (k ≤ 4 → chOp 4 t = 0) ∧ (k ≤ 3 → relOp [t] = 0 ∧ relWd [t] = 0) ∧ (k ≤ 2 → chOp 2 t = 0) ∧ (k ≤ 1 → chOp 1 t = 0)
theorem Fl.up {k k' : Nat} {r : List Tk} (h : Fl k r) (hk : k ≤ k') : Fl k' r := fun t q e => by
 obtain ⟨h1, h2, h3, h4, h5, h6, h7, h8⟩ := h t q e
 exact ⟨h1, h2, fun g => h3 (by omega), fun g => h4 (by omega), fun g => h5 (by omega), fun g => h6 (by omega), fun g => h7 (by omega), fun g => h8 (by omega)⟩
theorem Fl.nil (k : Nat) : Fl k [] := fun t q e => by cases e
structure Bk (w : List Tk) (e : List Nd) (L : Nat) : Prop where
 ne : w ≠ []
 nif : 1 ≤ L → ∀ r, hdN wIf (w ++ r) = true → hdS wCol (w ++ r).tail = true
 nsg : 7 ≤ L → ∀ r, NoSign (w ++ r)
 c8 : 8 ≤ L → ∀ r, Fl 8 r → Ps .atom (w ++ r) e r
 c7 : 7 ≤ L → ∀ r, Fl 8 r → ∀ e' r', Ps (.po e) r e' r' → Ps .sign (w ++ r) e' r'
 c6 : 6 ≤ L → ∀ r, Fl 7 r → Ps .sign (w ++ r) e r
 c5 : 5 ≤ L → ∀ r, Fl 7 r → ∀ e' r', Ps (.lp 5 e) r e' r' → Ps (.ch 5) (w ++ r) e' r'
 c4 : 4 ≤ L → ∀ r, Fl 5 r → ∀ e' r', Ps (.lp 4 e) r e' r' → Ps (.ch 4) (w ++ r) e' r'
 c3 : 3 ≤ L → ∀ r, Fl 3 r → Ps .rel (w ++ r) e r
 c2 : 2 ≤ L → ∀ r, Fl 3 r → ∀ e' r', Ps (.lp 2 e) r e' r' → Ps (.ch 2) (w ++ r) e' r'
 c1 : 1 ≤ L → ∀ r, Fl 2 r → ∀ e' r', Ps (.lp 1 e) r e' r' → Ps (.ch 1) (w ++ r) e' r'
 c0 : ∀ r, Fl 0 r → Ps .whole (w ++ r) e r
theorem Fl.lp {k l : Nat} {e : List Nd} {r : List Tk} (h : Fl k r) (hl : (l = 5 ∧ k ≤ 5) ∨ (l = 4 ∧ k ≤ 4) ∨ (l = 2 ∧ k ≤ 2) ∨ (l = 1 ∧ k ≤ 1)) : Ps (.lp l e) r e r := Ps.lp_end fun t q hr => by
 obtain ⟨h1, h2, h3, h4, h5, h6, h7, h8⟩ := h t q hr
 rcases hl with ⟨rfl, hk⟩ | ⟨rfl, hk⟩ | ⟨rfl, hk⟩ | ⟨rfl, hk⟩
 · exact h4 hk
 · exact h5 hk
 · exact h7 hk
 · exact h8 hk
theorem Fl.rel {k : Nat} {r : List Tk} (h : Fl k r) (hk : k ≤ 3) : relOp r = 0 ∧ relWd r = 0 := by
 cases r with
 | nil => exact ⟨rfl, rfl⟩
 | cons t q => exact (h t q rfl).2.2.2.2.2.1 hk
theorem Fl.dot {k : Nat} {r : List Tk} (h : Fl k r) (hk : k ≤ 7) : hdS [46] r = false := by
 cases r with
 | nil => rfl
 | cons t q => exact (h t q rfl).2.2.1 hk
theorem Fl.col {k : Nat} {r : List Tk} (h : Fl k r) : hdS wCol r = false := by
 cases r with
 | nil => rfl
 | cons t q => exact (h t q rfl).1
theorem Bk.of0 {w : List Tk} {e : List Nd} (ne : w ≠ []) (h : ∀ r, Fl 0 r → Ps .whole (w ++ r) e r) : Bk w e 0 :=
 ⟨ne, fun h => by omega, fun h => by omega, fun h => by omega, fun h => by omega, fun h => by omega, fun h => by omega, fun h => by omega, fun h => by omega, fun h => by omega, fun h => by omega, h⟩
theorem Bk.of1 {w : List Tk} {e : List Nd} (ne : w ≠ []) (hi : ∀ r, hdN wIf (w ++ r) = true → hdS wCol (w ++ r).tail = true) (h : ∀ r, Fl 2 r → ∀ e' r', Ps (.lp 1 e) r e' r' → Ps (.ch 1) (w ++ r) e' r') : Bk w e 1 :=
 { Bk.of0 ne (fun r hr => Ps.whole_ch (hi r) (h r (hr.up (by omega)) e r (hr.lp (by omega)))) with nif := fun _ => hi, nsg := fun h => by omega, c8 := fun h => by omega, c7 := fun h => by omega, c6 := fun h => by omega, c5 := fun h => by omega, c4 := fun h => by omega, c3 := fun h => by omega, c2 := fun h => by omega, c1 := fun _ => h }
theorem Bk.of2 {w : List Tk} {e : List Nd} (ne : w ≠ []) (hi : ∀ r, hdN wIf (w ++ r) = true → hdS wCol (w ++ r).tail = true) (h : ∀ r, Fl 3 r → ∀ e' r', Ps (.lp 2 e) r e' r' → Ps (.ch 2) (w ++ r) e' r') : Bk w e 2 :=
 { Bk.of1 ne hi (fun r hr e' r' hl => Ps.ch (l := 1) (h r (hr.up (by omega)) e r (hr.lp (by omega))) hl) with nif := fun _ => hi, nsg := fun h => by omega, c8 := fun h => by omega, c7 := fun h => by omega, c6 := fun h => by omega, c5 := fun h => by omega, c4 := fun h => by omega, c3 := fun h => by omega, c2 := fun _ => h, c1 := fun _ => (Bk.of1 ne hi (fun r hr e' r' hl => Ps.ch (l := 1) (h r (hr.up (by omega)) e r (hr.lp (by omega))) hl)).c1 (Nat.le_refl _) }
theorem Bk.of3 {w : List Tk} {e : List Nd} (ne : w ≠ []) (hi : ∀ r, hdN wIf (w ++ r) = true → hdS wCol (w ++ r).tail = true) (h : ∀ r, Fl 3 r → Ps .rel (w ++ r) e r) : Bk w e 3 := by
 have b := Bk.of2 ne hi (fun r hr e' r' hl => Ps.ch (l := 2) (h r hr) hl)
 exact { b with nif := fun _ => hi, nsg := fun h => by omega, c8 := fun h => by omega, c7 := fun h => by omega, c6 := fun h => by omega, c5 := fun h => by omega, c4 := fun h => by omega, c3 := fun _ => h, c2 := fun _ => b.c2 (by omega), c1 := fun _ => b.c1 (by omega) }
theorem Bk.of4 {w : List Tk} {e : List Nd} (ne : w ≠ []) (hi : ∀ r, hdN wIf (w ++ r) = true → hdS wCol (w ++ r).tail = true) (h : ∀ r, Fl 5 r → ∀ e' r', Ps (.lp 4 e) r e' r' → Ps (.ch 4) (w ++ r) e' r') : Bk w e 4 := by
 have b := Bk.of3 ne hi (fun r hr => Ps.rel_end (h r (hr.up (by omega)) e r (hr.lp (by omega))) (hr.rel (by omega)))
 exact { b with nif := fun _ => hi, nsg := fun h => by omega, c8 := fun h => by omega, c7 := fun h => by omega, c6 := fun h => by omega, c5 := fun h => by omega, c4 := fun _ => h, c3 := fun _ => b.c3 (by omega), c2 := fun _ => b.c2 (by omega), c1 := fun _ => b.c1 (by omega) }
theorem Bk.of5 {w : List Tk} {e : List Nd} (ne : w ≠ []) (hi : ∀ r, hdN wIf (w ++ r) = true → hdS wCol (w ++ r).tail = true) (h : ∀ r, Fl 7 r → ∀ e' r', Ps (.lp 5 e) r e' r' → Ps (.ch 5) (w ++ r) e' r') : Bk w e 5 := by
 have b := Bk.of4 ne hi (fun r hr e' r' hl => Ps.ch (l := 4) (h r (hr.up (by omega)) e r (hr.lp (by omega))) hl)
 exact { b with nif := fun _ => hi, nsg := fun h => by omega, c8 := fun h => by omega, c7 := fun h => by omega, c6 := fun h => by omega, c5 := fun _ => h, c4 := fun _ => b.c4 (by omega), c3 := fun _ => b.c3 (by omega), c2 := fun _ => b.c2 (by omega), c1 := fun _ => b.c1 (by omega) }
theorem Bk.of6 {w : List Tk} {e : List Nd} (ne : w ≠ []) (hi : ∀ r, hdN wIf (w ++ r) = true → hdS wCol (w ++ r).tail = true) (h : ∀ r, Fl 7 r → Ps .sign (w ++ r) e r) : Bk w e 6 := by
 have b := Bk.of5 ne hi (fun r hr e' r' hl => Ps.ch (l := 5) (h r hr) hl)
 exact { b with nif := fun _ => hi, nsg := fun h => by omega, c8 := fun h => by omega, c7 := fun h => by omega, c6 := fun _ => h, c5 := fun _ => b.c5 (by omega), c4 := fun _ => b.c4 (by omega), c3 := fun _ => b.c3 (by omega), c2 := fun _ => b.c2 (by omega), c1 := fun _ => b.c1 (by omega) }
theorem Bk.of7 {w : List Tk} {e : List Nd} (ne : w ≠ []) (hi : ∀ r, hdN wIf (w ++ r) = true → hdS wCol (w ++ r).tail = true) (hs : ∀ r, NoSign (w ++ r)) (h : ∀ r, Fl 8 r → ∀ e' r', Ps (.po e) r e' r' → Ps .sign (w ++ r) e' r') : Bk w e 7 := by
 have b := Bk.of6 ne hi (fun r hr => h r (hr.up (by omega)) e r (Ps.po_end (hr.dot (by omega))))
 exact { b with nif := fun _ => hi, nsg := fun _ => hs, c8 := fun h => by omega, c7 := fun _ => h, c6 := fun _ => b.c6 (by omega), c5 := fun _ => b.c5 (by omega), c4 := fun _ => b.c4 (by omega), c3 := fun _ => b.c3 (by omega), c2 := fun _ => b.c2 (by omega), c1 := fun _ => b.c1 (by omega) }
theorem Bk.of8 {w : List Tk} {e : List Nd} {L : Nat} (ne : w ≠ []) (hi : ∀ r, hdN wIf (w ++ r) = true → hdS wCol (w ++ r).tail = true) (hs : ∀ r, NoSign (w ++ r)) (h : ∀ r, Fl 8 r → Ps .atom (w ++ r) e r) : Bk w e L := by
 have b := Bk.of7 ne hi hs (fun r hr e' r' hl => Ps.sign_at (hs r) (h r hr) hl)
 exact { b with nif := fun _ => hi, nsg := fun _ => hs, c8 := fun _ => h, c7 := fun _ => b.c7 (by omega), c6 := fun _ => b.c6 (by omega), c5 := fun _ => b.c5 (by omega), c4 := fun _ => b.c4 (by omega), c3 := fun _ => b.c3 (by omega), c2 := fun _ => b.c2 (by omega), c1 := fun _ => b.c1 (by omega) }
theorem Bk.low {w : List Tk} {e : List Nd} {L L' : Nat} (h : Bk w e L) (hl : L' ≤ L) : Bk w e L' :=
 ⟨h.ne, fun g => h.nif (by omega), fun g => h.nsg (by omega), fun g => h.c8 (by omega), fun g => h.c7 (by omega), fun g => h.c6 (by omega), fun g => h.c5 (by omega), fun g => h.c4 (by omega), fun g => h.c3 (by omega), fun g => h.c2 (by omega), fun g => h.c1 (by omega), h.c0⟩
theorem tSg_k (l : List UInt8) : (tSg l).kind = 5 := rfl
theorem tSg_s (l : List UInt8) : (tSg l).s.toList = l := bsOf_list l
theorem tNm_k (l : List UInt8) : (tNm l).kind = 1 := rfl
theorem tNm_s (l : List UInt8) : (tNm l).s.toList = l := bsOf_list l
theorem isS_Sg (l m : List UInt8) : isS m (tSg l) = (l == m) := by unfold isS; rw [tSg_k, tSg_s]; simp
theorem isN_Sg (l m : List UInt8) : isN m (tSg l) = false := by unfold isN; rw [tSg_k]; simp
theorem isN_Nm (l m : List UInt8) : isN m (tNm l) = (l == m) := by unfold isN; rw [tNm_k, tNm_s]; simp
theorem isS_Nm (l m : List UInt8) : isS m (tNm l) = false := by unfold isS; rw [tNm_k]; simp
theorem chOp_Sg (k : Nat) (l : List UInt8) : chOp k (tSg l) = if k = 1 then (if l = [124, 124] then 12 else 0) else if k = 2 then (if l = [38, 38] then 11 else 0) else if k = 4 then (if l = [43] then 17 else if l = [45] then 18 else 0) else (if l = [42] then 19 else 0) := by
 unfold chOp; rw [tSg_k, tSg_s, if_neg (by simp)]
theorem chOp_no {t : Tk} (h : t.kind ≠ 5) (k : Nat) : chOp k t = 0 := by unfold chOp; rw [if_pos h]
theorem relOp_Sg (l : List UInt8) : relOp [tSg l] = if l = [61, 61] then 14 else if l = [60] then 15 else if l = [60, 61] then 16 else 0 := by
 show (if isS [61, 61] (tSg l) = true then (14 : Int) else if isS [60] (tSg l) = true then 15 else if isS [60, 61] (tSg l) = true then 16 else if isN [105, 110] (tSg l) = true then 20 else 0) = _
 simp only [isS_Sg, isN_Sg, beq_iff_eq]; simp
theorem relWd_Sg (l : List UInt8) : relWd [tSg l] = 0 := by
 show (if isN [104, 97, 115] (tSg l) = true then (21 : Int) else if isN [105, 115] (tSg l) = true then 24 else if isN [108, 105, 107, 101] (tSg l) = true then 23 else 0) = 0
 simp only [isN_Sg]; simp
theorem Fl.sg {k : Nat} {l : List UInt8} {q : List Tk} (h : l ≠ wCol ∧ l ≠ [40] ∧ (k ≤ 7 → l ≠ [46]) ∧ (k ≤ 5 → l ≠ [42]) ∧ (k ≤ 4 → l ≠ [43] ∧ l ≠ [45]) ∧ (k ≤ 3 → l ≠ [61, 61] ∧ l ≠ [60] ∧ l ≠ [60, 61]) ∧ (k ≤ 2 → l ≠ [38, 38]) ∧ (k ≤ 1 → l ≠ [124, 124])) : Fl k (tSg l :: q) := fun t q' e => by
 injection e with e _
 subst e
 obtain ⟨h1, h2, h3, h4, h5, h6, h7, h8⟩ := h
 refine ⟨by simp [isS_Sg, h1], by simp [isS_Sg, h2], fun g => by simp [isS_Sg, h3 g], fun g => by simp [chOp_Sg, h4 g], fun g => by simp [chOp_Sg, h5 g], fun g => ⟨by simp [relOp_Sg, h6 g], relWd_Sg l⟩, fun g => by simp [chOp_Sg, h7 g], fun g => by simp [chOp_Sg, h8 g]⟩
theorem Fl.nm {k : Nat} {l : List UInt8} {q : List Tk} (h : k ≤ 3 → l ≠ [105, 110] ∧ l ≠ [104, 97, 115] ∧ l ≠ [105, 115] ∧ l ≠ [108, 105, 107, 101]) : Fl k (tNm l :: q) := fun t q' e => by
 injection e with e _
 subst e
 refine ⟨isS_Nm _ _, isS_Nm _ _, fun g => isS_Nm _ _, fun g => chOp_no (by simp [tNm_k]) _, fun g => chOp_no (by simp [tNm_k]) _, fun g => ⟨?_, ?_⟩, fun g => chOp_no (by simp [tNm_k]) _, fun g => chOp_no (by simp [tNm_k]) _⟩
 · show (if isS [61, 61] (tNm l) = true then (14 : Int) else if isS [60] (tNm l) = true then 15 else if isS [60, 61] (tNm l) = true then 16 else if isN [105, 110] (tNm l) = true then 20 else 0) = 0
   simp [isS_Nm, isN_Nm, h g]
 · show (if isN [104, 97, 115] (tNm l) = true then (21 : Int) else if isN [105, 115] (tNm l) = true then 24 else if isN [108, 105, 107, 101] (tNm l) = true then 23 else 0) = 0
   simp [isN_Nm, h g]
theorem Bk.round {w : List Tk} {e : List Nd} {L : Nat} (h : Bk w e L) : Bk (tSg [40] :: (w ++ [tSg [41]])) e 9 := by
 refine Bk.of8 (by simp) (fun r => ?_) (fun r => ⟨?_, ?_⟩) fun r hr => ?_
 · intro h; exact absurd (show isN wIf (tSg [40]) = true from h) (by rw [isN_Sg]; simp)
 · show isS [33] (tSg [40]) = false
   rw [isS_Sg]; decide
 · intro h; exact absurd (show isS [45] (tSg [40]) = true from h) (by rw [isS_Sg]; decide)
 · have h0 := h.c0 (tSg [41] :: r) (Fl.sg (by decide))
   have := Ps.round (t := tSg [40]) (by rw [isS_Sg]; decide) h0 (by rw [isS_Sg]; decide)
   simpa using this
end Go.Proofs.YtbggbcnfkcadjaaGreatDoor
namespace Go.Proofs.YtbggbcnfkcadjaaGreatDoor
open Go.RowKit
theorem uintM_dec (M : Nat) (hM : M ≤ 18446744073709551615) : ∀ (u : Nat) (r : List UInt8), u ≤ M → Lib.parseUintM M 0 (Lib.decDigits u ++ r) = Lib.parseUintM M u r := by
 intro u
 induction u using Nat.strongRecOn with
 | _ u ih =>
   intro r hu
   rw [Lib.decDigits]
   by_cases h : u < 10
   · rw [dif_pos h]
     have hc : (UInt8.ofNat (48 + u)).toNat = 48 + u := by simp; omega
     show Lib.parseUintM M 0 (UInt8.ofNat (48 + u) :: r) = _
     rw [Lib.parseUintM, hc, if_pos (by omega), if_neg (by omega), if_neg (by omega)]
     congr 1
     omega
   · rw [dif_neg h, List.append_assoc, ih (u / 10) (by omega) _ (by omega)]
     have hc : (UInt8.ofNat (48 + u % 10)).toNat = 48 + u % 10 := by simp; omega
     show Lib.parseUintM M (u / 10) (UInt8.ofNat (48 + u % 10) :: r) = _
     rw [Lib.parseUintM, hc, if_pos (by omega), if_neg (by omega), if_neg (by omega)]
     congr 1
     omega
theorem uintB_dec {u : Nat} (hu : u ≤ 18446744073709551615) : Lib.parseUintB 64 (Lib.decDigits u) = .ok u := by
 unfold Lib.parseUintB
 have hne : Lib.decDigits u ≠ [] := by rw [Lib.decDigits]; split <;> simp
 rw [if_neg hne]
 have := uintM_dec (2 ^ 64 - 1) (by decide) u [] (by simpa using hu)
 rw [List.append_nil] at this
 rw [this]; rfl
theorem dec_head (u : Nat) : ∃ c l, Lib.decDigits u = c :: l ∧ 48 ≤ c.toNat ∧ c.toNat ≤ 57 := by
 induction u using Nat.strongRecOn with
 | _ u ih =>
   rw [Lib.decDigits]
   by_cases h : u < 10
   · rw [dif_pos h]
     have hc : (UInt8.ofNat (48 + u)).toNat = 48 + u := by simp; omega
     exact ⟨_, _, rfl, by omega, by omega⟩
   · rw [dif_neg h]
     obtain ⟨c, l, e, h1, h2⟩ := ih (u / 10) (by omega)
     rw [e]; exact ⟨c, l ++ _, rfl, h1, h2⟩
theorem numW_pos {n : Int} (h0 : 0 ≤ n) (h : n ≤ 9223372036854775807) : numW (Lib.itoa n) = some n := by
 have hi : Lib.itoa n = Lib.decDigits n.toNat := by unfold Lib.itoa; rw [if_neg (by omega)]
 obtain ⟨c, l, e, h1, h2⟩ := dec_head n.toNat
 have hu := uintB_dec (u := n.toNat) (by omega)
 rw [e] at hu
 unfold numW Lib.parseIntB
 rw [hi, e]
 dsimp only
 rw [if_neg (by omega), hu]
 dsimp only
 rw [if_neg (by rintro ⟨_, h3⟩; have : (2 : Nat) ^ (64 - 1) = 9223372036854775808 := by decide
                omega), if_neg (by rintro ⟨h3, _⟩; omega), if_neg (by omega)]
 show some (n.toNat : Int) = some n
 rw [Int.toNat_of_nonneg h0]
theorem numW_neg {n : Int} (h0 : n < 0) (h : -9223372036854775808 ≤ n) : numW (45 :: Lib.itoa (-n)) = some n := by
 have hi : Lib.itoa (-n) = Lib.decDigits (-n).toNat := by unfold Lib.itoa; rw [if_neg (by omega)]
 have hu := uintB_dec (u := (-n).toNat) (by omega)
 unfold numW Lib.parseIntB
 rw [hi]
 dsimp only
 rw [if_pos (.inr rfl), hu]
 dsimp only
 rw [if_neg (by rintro ⟨h3, _⟩; exact h3 rfl), if_neg (by rintro ⟨_, h3⟩; have : (2 : Nat) ^ (64 - 1) = 9223372036854775808 := by decide
                                                          omega), if_pos (show (45 : UInt8).toNat = 45 from rfl)]
 show some (-((-n).toNat : Int)) = some n
 rw [Int.toNat_of_nonneg (by omega), Int.neg_neg]
theorem numT_read {n : Int} (h : -9223372036854775808 ≤ n ∧ n ≤ 9223372036854775807) (r : List Tk) (wh se re : List Tk → Pr) : atomR wh se re (numT n ++ r) = .ok [numX n] r := by
 unfold numT
 by_cases h0 : n < 0
 · rw [if_pos h0]
   show atomR wh se re (tSg [45] :: ⟨2, bsOf (Lib.itoa (-n)), 0⟩ :: r) = _
   unfold atomR
   dsimp only
   rw [if_neg (by rw [tSg_k]; decide), if_neg (by rw [tSg_k]; decide), if_neg (by rw [tSg_k]; decide), if_neg (by rw [tSg_k]; decide), if_pos (by rw [isS_Sg]; decide)]
   unfold minusR
   dsimp only
   rw [if_pos rfl]
   unfold numA
   rw [bsOf_list, numW_neg h0 h.1]
 · rw [if_neg h0]
   show atomR wh se re (⟨2, bsOf (Lib.itoa n), 0⟩ :: r) = _
   unfold atomR
   dsimp only
   rw [if_pos rfl]
   unfold numA
   rw [bsOf_list, numW_pos (by omega) h.2]
theorem bs_nil {s : ByteArray} (h : s.toList = []) : s = ⟨#[]⟩ := by rw [← bsOf_toList s, h]; rfl
theorem val_one {n : Nd} (h : valErr [n] = 0) : shapedV n = true := by
 cases hv : shapedV n with
 | true => rfl
 | false =>
   have : vGo [n] (2 * [n].length) .one 0 = none := by
     show (if shapedV n = false then none else _) = none
     rw [if_pos hv]
   unfold valErr at h
   rw [if_neg (by simp), this] at h
   simp at h
end Go.Proofs.YtbggbcnfkcadjaaGreatDoor
namespace Go.Proofs.YtbggbcnfkcadjaaGreatDoor
open Go.RowKit
theorem nif_sg {l : List UInt8} {q r : List Tk} : hdN wIf (tSg l :: q ++ r) = true → hdS wCol (tSg l :: q ++ r).tail = true := by
 intro h; exact absurd (show isN wIf (tSg l) = true from h) (by rw [isN_Sg]; simp)
end Go.Proofs.YtbggbcnfkcadjaaGreatDoor
namespace Go.Proofs.YtbggbcnfkcadjaaGreatDoor
open Go.RowKit
theorem name_nores {s : ByteArray} (h : variableB s.toList = true) (h63 : ∀ l, s.toList ≠ 63 :: l) : reserved s.toList = false ∧ nameErr s.toList = 0 := by
 unfold variableB at h
 cases hs : s.toList with
 | nil => rw [hs] at h; simp [nameErr] at h
 | cons c l =>
   rw [hs] at h
   have hc : ¬ c = 63 := fun e => h63 l (by rw [hs, e])
   simp only [if_neg hc, Bool.and_eq_true, beq_iff_eq, Bool.not_eq_true'] at h
   exact ⟨h.2, h.1⟩
theorem res_words {l : List UInt8} (h : reserved l = false) : l ≠ wIf ∧ l ≠ wTrue ∧ l ≠ wFalse := by
 unfold reserved at h
 simp only [Bool.or_eq_false_iff, beq_eq_false_iff_ne] at h
 obtain ⟨⟨⟨⟨⟨⟨⟨⟨h1, _⟩, _⟩, h4⟩, h5⟩, _⟩, _⟩, _⟩, _⟩ := h
 exact ⟨h1, h4, h5⟩
theorem nosg_kind {t : Tk} {q : List Tk} (h : t.kind ≠ 5) : NoSign (t :: q) := by
 have : ∀ l, isS l t = false := fun l => by unfold isS; simp [h]
 exact ⟨this _, fun hc => absurd (show isS [45] t = true from hc) (by rw [this]; simp)⟩
theorem noif_kind {t : Tk} {q : List Tk} (h : t.kind ≠ 1) : hdN wIf (t :: q) = true → hdS wCol (t :: q).tail = true := fun hc => by
 have hc : isN wIf t = true := hc
 unfold isN at hc; simp [h] at hc
theorem isS_kind {t : Tk} (h : t.kind ≠ 5) (l : List UInt8) : isS l t = false := by unfold isS; simp [h]
theorem bk_leaf {n : Nd} (hs : shapedT n = true) (ho : n.op = 1 ∨ n.op = 2 ∨ n.op = 3 ∨ n.op = 4 ∨ n.op = 8) (hk : n.op = 2 → -9223372036854775808 ≤ n.n ∧ n.n ≤ 9223372036854775807) :
   Bk (leafT n) [n] 8 ∧ hdS wCol (leafT n) = false ∧ hdS [93] (leafT n) = false ∧ (firstN [n] = false → hdK 2 (leafT n) = false) := by
 have hv : n.op ≠ 8 → shapedV n = true := fun h8 => by
   unfold shapedT at hs
   rw [if_pos (by omega)] at hs
   exact val_one (by simpa using hs)
 rcases ho with h | h | h | h | h
 · -- a truth
   have hv := hv (by omega)
   unfold shapedV at hv
   rw [if_pos h] at hv
   simp only [Bool.and_eq_true, Bool.or_eq_true, beq_iff_eq, List.isEmpty_iff] at hv
   have hl : leafT n = [tNm (if n.n = 1 then wTrue else wFalse)] := by unfold leafT; rw [if_pos h]
   rw [hl]
   refine ⟨Bk.of8 (by simp) (fun r hc => absurd (show isN wIf (tNm _) = true from hc) ?_) (fun r => nosg_kind (by simp [tNm_k])) fun r hr => Ps.leaf fun wh se re => ?_, isS_Nm _ _, isS_Nm _ _, fun _ => rfl⟩
   · rw [isN_Nm]; split <;> decide
   · show atomR wh se re (tNm (if n.n = 1 then wTrue else wFalse) :: r) = _
     unfold atomR
     dsimp only
     rw [if_neg (by rw [tNm_k]; decide), if_neg (by rw [tNm_k]; decide), if_neg (by rw [tNm_k]; decide), if_pos (tNm_k _), if_neg (by rw [hr.col]; simp), tNm_s]
     obtain ⟨o, k, s, t⟩ := n
     simp only at h hv ⊢
     rw [h, bs_nil hv.1.2, bs_nil hv.2]
     rcases hv.1.1 with rfl | rfl
     · rw [if_neg (by decide), if_pos (by decide)]
     · rw [if_pos rfl, if_pos rfl]
 · -- a number
   have hv := hv (by omega)
   unfold shapedV at hv
   rw [if_neg (by omega), if_pos h] at hv
   simp only [Bool.and_eq_true, List.isEmpty_iff] at hv
   have hl : leafT n = numT n.n := by unfold leafT; rw [if_neg (by omega), if_pos h]
   have hn : [n] = [numX n.n] := by
     obtain ⟨o, k, s, t⟩ := n
     simp only at h hv ⊢
     rw [h, bs_nil hv.1, bs_nil hv.2]; rfl
   rw [hl]
   have hne : numT n.n ≠ [] := by unfold numT; split <;> simp
   have hns : ∀ r, NoSign (numT n.n ++ r) := by
     intro r
     unfold numT
     split
     · refine ⟨?_, fun _ => rfl⟩
       show isS [33] (tSg [45]) = false
       rw [isS_Sg]; decide
     · exact nosg_kind (by simp)
   refine ⟨Bk.of8 hne (fun r => ?_) hns fun r _ => ?_, ?_, ?_, fun hf => ?_⟩
   · unfold numT
     split
     · exact nif_sg
     · exact noif_kind (by simp)
   · rw [hn]; exact Ps.leaf fun wh se re => numT_read (hk h) r wh se re
   · unfold numT; split
     · show isS wCol (tSg [45]) = false
       rw [isS_Sg]; decide
     · exact isS_kind (by simp) _
   · unfold numT; split
     · show isS [93] (tSg [45]) = false
       rw [isS_Sg]; decide
     · exact isS_kind (by simp) _
   · have : ¬ (0 ≤ n.n) := by
       have hf' : (if lvlW n.op = 7 then firstN [] else n.op == 2 && decide (0 ≤ n.n)) = false := hf
       rw [h, if_neg (by decide)] at hf'
       simpa using hf'
     unfold numT; rw [if_pos (by omega)]; rfl
 · -- a text
   have hv := hv (by omega)
   unfold shapedV at hv
   rw [if_neg (by omega), if_neg (by omega), if_pos h] at hv
   simp only [Bool.and_eq_true, beq_iff_eq, List.isEmpty_iff] at hv
   have hl : leafT n = [⟨3, n.s, 0⟩] := by unfold leafT; rw [if_neg (by omega), if_neg (by omega), if_pos h]
   rw [hl]
   refine ⟨Bk.of8 (by simp) (fun r => noif_kind (by simp)) (fun r => nosg_kind (by simp)) fun r _ => Ps.leaf fun wh se re => ?_, isS_kind (by simp) _, isS_kind (by simp) _, fun _ => rfl⟩
   show atomR wh se re (⟨3, n.s, 0⟩ :: r) = _
   unfold atomR
   dsimp only
   rw [if_neg (by decide), if_pos rfl]
   obtain ⟨o, k, s, t⟩ := n
   simp only at h hv ⊢
   rw [h, hv.1.1, bs_nil hv.1.2]
 · -- a uid
   have hv := hv (by omega)
   unfold shapedV at hv
   rw [if_neg (by omega), if_neg (by omega), if_neg (by omega), if_pos h] at hv
   simp only [Bool.and_eq_true, beq_iff_eq] at hv
   have hl : leafT n = [⟨1, n.s, 0⟩, tSg wCol, ⟨3, n.t, 0⟩] := by unfold leafT; rw [if_neg (by omega), if_neg (by omega), if_neg (by omega), if_pos h]
   rw [hl]
   refine ⟨Bk.of8 (by simp) (fun r _ => ?_) (fun r => nosg_kind (by simp)) fun r _ => Ps.leaf fun wh se re => ?_, isS_kind (by simp) _, isS_kind (by simp) _, fun _ => rfl⟩
   · show isS wCol (tSg wCol) = true
     rw [isS_Sg]; decide
   · show atomR wh se re (⟨1, n.s, 0⟩ :: tSg wCol :: ⟨3, n.t, 0⟩ :: r) = _
     unfold atomR
     dsimp only
     rw [if_neg (by decide), if_neg (by decide), if_neg (by decide), if_pos rfl, if_pos (show hdS wCol (tSg wCol :: ⟨3, n.t, 0⟩ :: r) = true from (by rw [isS_Sg]; decide : isS wCol (tSg wCol) = true))]
     show (if ((3 : Int) == 3) = true then Pr.ok [⟨4, 0, n.s, n.t⟩] r else Pr.bad 1 (⟨3, n.t, 0⟩ :: r)) = _
     rw [if_pos (by decide)]
     obtain ⟨o, k, s, t⟩ := n
     simp only at h hv ⊢
     rw [h, hv.1.1]
 · -- a name, or a slot
   have hv : n.n = 0 ∧ n.t.toList = [] ∧ variableB n.s.toList = true := by
     unfold shapedT at hs
     rw [if_neg (by omega), if_neg (by omega), if_pos h] at hs
     simp only [Bool.and_eq_true, beq_iff_eq, List.isEmpty_iff] at hs
     exact ⟨hs.1.1, hs.1.2, hs.2⟩
   have hn : n = ⟨8, 0, n.s, ⟨#[]⟩⟩ := by
     obtain ⟨o, k, s, t⟩ := n
     simp only at h hv ⊢
     rw [h, hv.1, bs_nil hv.2.1]
   have hl : leafT n = varT n.s := by unfold leafT; rw [if_neg (by omega), if_neg (by omega), if_neg (by omega), if_neg (by omega)]
   rw [hl]
   by_cases hq : ∃ l, n.s.toList = 63 :: l
   · obtain ⟨l, hq⟩ := hq
     have hvt : varT n.s = [⟨4, bsOf l, 0⟩] := by unfold varT; rw [hq]; rfl
     rw [hvt]
     refine ⟨Bk.of8 (by simp) (fun r => noif_kind (by simp)) (fun r => nosg_kind (by simp)) fun r _ => Ps.leaf fun wh se re => ?_, isS_kind (by simp) _, isS_kind (by simp) _, fun _ => rfl⟩
     show atomR wh se re (⟨4, bsOf l, 0⟩ :: r) = _
     unfold atomR
     dsimp only
     rw [if_neg (by decide), if_neg (by decide), if_pos rfl, bsOf_list, hn, ← hq, bsOf_toList]
   · have h63 : ∀ l, n.s.toList ≠ 63 :: l := fun l e => hq ⟨l, e⟩
     obtain ⟨hres, _⟩ := name_nores hv.2.2 h63
     obtain ⟨w1, w2, w3⟩ := res_words hres
     have hvt : varT n.s = [⟨1, n.s, 0⟩] := by
       unfold varT
       split
       · rename_i l e; exact absurd e (h63 l)
       · rfl
     rw [hvt]
     refine ⟨Bk.of8 (by simp) (fun r hc => ?_) (fun r => nosg_kind (by simp)) fun r hr => Ps.leaf fun wh se re => ?_, isS_kind (by simp) _, isS_kind (by simp) _, fun _ => rfl⟩
     · have hc : isN wIf ⟨1, n.s, 0⟩ = true := hc
       unfold isN at hc
       simp only [Bool.and_eq_true, beq_iff_eq] at hc
       exact absurd hc.2 w1
     · show atomR wh se re (⟨1, n.s, 0⟩ :: r) = _
       unfold atomR
       dsimp only
       rw [if_neg (by decide), if_neg (by decide), if_neg (by decide), if_pos rfl, if_neg (by rw [hr.col]; simp), if_neg w2, if_neg w3, if_neg (by rw [hres]; simp), hn]
end Go.Proofs.YtbggbcnfkcadjaaGreatDoor
namespace Go.Proofs.YtbggbcnfkcadjaaGreatDoor
open Go.RowKit
structure TkS (t : Tk) : Prop where
 sz : t.s.size ≤ 60
 nm : t.kind = 1 → ∃ c r, t.s.toList = c :: r ∧ letB c = true
 sg : t.kind = 5 → ∃ c r, t.s.toList = c :: r ∧ letB c = false
def NdG (x : Nd) : Prop := x.s.size ≤ 61 ∧ x.t.size ≤ 60 ∧ -9223372036854775808 ≤ x.n ∧ x.n ≤ 9223372036854775807
structure OkR (s n a : Nat) (ts : List Tk) (e : List Nd) (r : List Tk) : Prop where
 gd : ∀ x ∈ e, NdG x
 tk : ∀ t ∈ r, TkS t
 ln : r.length + s ≤ ts.length
 nd : e.length + r.length + n ≤ ts.length + a
def GdP (s n a N : Nat) (p : List Tk → Pr) : Prop := ∀ ts, (∀ t ∈ ts, TkS t) → ts.length ≤ N → ∀ e r, p ts = .ok e r → OkR s n a ts e r
theorem GdP.bind {s n a N s' n' b : Nat} {x : List Tk → Pr} {g : List Nd → List Tk → Pr} (h : GdP s n a N x) (hg : ∀ e, (∀ y ∈ e, NdG y) → s ≤ N → GdP s' n' (e.length + b) (N - s) (g e)) : GdP (s + s') (n + n') (a + b) N (fun ts => (x ts).bind g) := by
 intro ts ht hl e r hr
 have hr : (x ts).bind g = .ok e r := hr
 cases hx : x ts with
 | bad k q => rw [hx] at hr; cases hr
 | ok e1 r1 =>
   rw [hx] at hr
   have h1 := h ts ht hl e1 r1 hx
   have l1 := h1.ln
   have h2 := hg e1 h1.gd (by omega) r1 h1.tk (by omega) e r hr
   have l2 := h2.ln; have n1 := h1.nd; have n2 := h2.nd
   exact ⟨h2.gd, h2.tk, by omega, by omega⟩
theorem GdP.ok {e : List Nd} {N : Nat} (h : ∀ y ∈ e, NdG y) : GdP 0 0 e.length N (fun ts => .ok e ts) := by
 intro ts ht hl e' r hr
 injection hr with h1 h2
 subst h1 h2
 exact ⟨h, ht, by omega, by omega⟩
theorem GdP.tok {s n a N : Nat} {c : Tk → Bool} {g : Tk → List Tk → Pr} (hg : ∀ t, TkS t → c t = true → 1 ≤ N → GdP s n a (N - 1) (g t)) : GdP (s + 1) (n + 1) a N (fun ts => tokR c ts g) := by
 intro ts ht hl e r hr
 cases ts with
 | nil => cases hr
 | cons t q =>
   have hr : (if c t = true then g t q else .bad 1 (t :: q)) = .ok e r := hr
   by_cases hc : c t = true
   · rw [if_pos hc] at hr
     rw [List.length_cons] at hl
     have h2 := hg t (ht t (by simp)) hc (by omega) q (fun u hu => ht u (by simp [hu])) (by omega) e r hr
     have l2 := h2.ln; have n2 := h2.nd
     exact ⟨h2.gd, h2.tk, by rw [List.length_cons]; omega, by rw [List.length_cons]; omega⟩
   · rw [if_neg hc] at hr; cases hr
theorem GdP.ite {s n a N : Nat} {c : List Tk → Prop} [∀ ts, Decidable (c ts)] {p q : List Tk → Pr} (h1 : GdP s n a N p) (h2 : GdP s n a N q) : GdP s n a N (fun ts => if c ts then p ts else q ts) := by
 intro ts ht hl e r hr
 have hr : (if c ts then p ts else q ts) = .ok e r := hr
 by_cases hc : c ts
 · rw [if_pos hc] at hr; exact h1 ts ht hl e r hr
 · rw [if_neg hc] at hr; exact h2 ts ht hl e r hr
theorem GdP.mono {s n a N s' n' a' N' : Nat} {p : List Tk → Pr} (h : GdP s n a N p) (hs : s' ≤ s) (hn : n' + a ≤ n + a') (hN : N' ≤ N) : GdP s' n' a' N' p := by
 intro ts ht hl e r hr
 have h2 := h ts ht (by omega) e r hr
 have l2 := h2.ln; have n2 := h2.nd
 exact ⟨h2.gd, h2.tk, by omega, by omega⟩
theorem GdP.tail {s n a N : Nat} {p : List Tk → Pr} (h : GdP s n a N p) : GdP s n a N (fun ts => p ts.tail) := by
 intro ts ht hl e r hr
 have h2 := h ts.tail (fun u hu => ht u (List.mem_of_mem_tail hu)) (by rw [List.length_tail]; omega) e r hr
 have l2 := h2.ln; have n2 := h2.nd
 rw [List.length_tail] at l2 n2
 exact ⟨h2.gd, h2.tk, by omega, by omega⟩
theorem GdP.head {s n a N : Nat} {c : List Tk → Prop} [∀ ts, Decidable (c ts)] {p q : List Tk → Pr} (hc : ¬ c []) (h1 : GdP s n (a + 1) N p) (h2 : GdP (s + 1) n a N q) : GdP (s + 1) n a N (fun ts => if c ts then p ts.tail else q ts) := by
 intro ts ht hl e r hr
 have hr : (if c ts then p ts.tail else q ts) = .ok e r := hr
 by_cases h : c ts
 · rw [if_pos h] at hr
   cases ts with
   | nil => exact absurd h hc
   | cons t w =>
     rw [List.length_cons] at hl
     have h3 := h1 w (fun u hu => ht u (by simp [hu])) (by omega) e r hr
     have l2 := h3.ln; have n2 := h3.nd
     exact ⟨h3.gd, h3.tk, by rw [List.length_cons]; omega, by rw [List.length_cons]; omega⟩
 · rw [if_neg h] at hr; exact h2 ts ht hl e r hr
theorem opX_gd {o : Int} {e : List Nd} (h : ∀ y ∈ e, NdG y) : ∀ y ∈ opX o e, NdG y := by
 intro y hy
 rcases List.mem_cons.1 hy with rfl | hy
 · exact ⟨by show 0 ≤ 61; omega, by show 0 ≤ 60; omega, by show (-9223372036854775808 : Int) ≤ 0; omega, by show (0 : Int) ≤ _; omega⟩
 · exact h y hy
theorem opS_gd {o : Int} {s : ByteArray} {e : List Nd} (hs : s.size ≤ 60) (h : ∀ y ∈ e, NdG y) : ∀ y ∈ opS o s e, NdG y := by
 intro y hy
 rcases List.mem_cons.1 hy with rfl | hy
 · exact ⟨by show s.size ≤ 61; omega, by show 0 ≤ 60; omega, by show (-9223372036854775808 : Int) ≤ 0; omega, by show (0 : Int) ≤ _; omega⟩
 · exact h y hy
theorem app_gd {a b : List Nd} (ha : ∀ y ∈ a, NdG y) (hb : ∀ y ∈ b, NdG y) : ∀ y ∈ a ++ b, NdG y := fun y hy => (List.mem_append.1 hy).elim (ha y) (hb y)
theorem list_gd {o : Int} {m : Nat} (hm : m ≤ 1000) {e : List Nd} (h : ∀ y ∈ e, NdG y) : ∀ y ∈ (⟨o, m, ⟨#[]⟩, ⟨#[]⟩⟩ :: e : List Nd), NdG y := by
 intro y hy
 rcases List.mem_cons.1 hy with rfl | hy
 · exact ⟨by show 0 ≤ 61; omega, by show 0 ≤ 60; omega, by show (-9223372036854775808 : Int) ≤ (m : Int); omega, by show (m : Int) ≤ _; omega⟩
 · exact h y hy
theorem numW_in {l : List UInt8} {n : Int} (h : numW l = some n) : -9223372036854775808 ≤ n ∧ n ≤ 9223372036854775807 := by
 unfold numW at h
 split at h
 · rename_i v hv
   injection h with h; subst h
   unfold Lib.parseIntB at hv
   split at hv
   · cases hv
   · dsimp only at hv
     split at hv
     · cases hv
     · cases hv
     · rename_i u hu
       split at hv
       · cases hv
       · split at hv
         · cases hv
         · rename_i h1 h2
           injection hv with hv
           have e63 : 2 ^ (64 - 1) = 9223372036854775808 := by decide
           rw [e63] at h1 h2
           subst hv
           split
           · rename_i hn
             have : ¬ 9223372036854775808 < u := fun h => h2 ⟨hn, h⟩
             omega
           · rename_i hn
             have : ¬ 9223372036854775808 ≤ u := fun h => h1 ⟨hn, h⟩
             omega
 · cases h
theorem one_gd {x : Nd} (h : NdG x) : ∀ y ∈ [x], NdG y := fun y hy => by rw [List.mem_singleton] at hy; subst hy; exact h
theorem GdP.atom {N : Nat} {wh se re : List Tk → Pr} (h1 : GdP 1 0 0 N wh) (h2 : GdP 0 0 1 N se) (h3 : GdP 0 0 1 N re) : GdP 1 0 0 (N + 1) (atomR wh se re) := by
 intro ts ht hl e r hr
 cases ts with
 | nil => cases hr
 | cons t q =>
   rw [List.length_cons] at hl
   have hq : ∀ u ∈ q, TkS u := fun u hu => ht u (by simp [hu])
   have st := (ht t (by simp)).sz
   have one : ∀ x, NdG x → ∀ e r, Pr.ok [x] q = .ok e r → OkR 1 0 0 (t :: q) e r := by
     intro x hx e r hr
     injection hr with h1 h2; subst h1 h2
     exact ⟨one_gd hx, hq, by simp, by simp; omega⟩
   have lift : ∀ {s : Nat} {p : List Tk → Pr}, GdP s 0 1 N p → ∀ e r, p q = .ok e r → OkR 1 0 0 (t :: q) e r := by
     intro s p hp e r hr
     have h := hp q hq (by omega) e r hr
     have l := h.ln; have n := h.nd
     exact ⟨h.gd, h.tk, by rw [List.length_cons]; omega, by rw [List.length_cons]; omega⟩
   unfold atomR at hr
   dsimp only at hr
   split at hr
   · unfold numA at hr
     split at hr
     · rename_i n hn
       exact one _ ⟨by show 0 ≤ 61; omega, by show 0 ≤ 60; omega, (numW_in hn).1, (numW_in hn).2⟩ e r hr
     · cases hr
   split at hr
   · exact one _ ⟨by show t.s.size ≤ 61; omega, by show 0 ≤ 60; omega, by show (-9223372036854775808 : Int) ≤ 0; omega, by show (0 : Int) ≤ _; omega⟩ e r hr
   split at hr
   · exact one _ ⟨by show (bsOf _).size ≤ 61; rw [bsOf_sz, List.length_cons, toList_len]; omega, by show 0 ≤ 60; omega, by show (-9223372036854775808 : Int) ≤ 0; omega, by show (0 : Int) ≤ _; omega⟩ e r hr
   split at hr
   · split at hr
     · refine lift (s := 1) (p := fun r => wordR 3 r.tail fun s r2 => .ok [⟨4, 0, t.s, s⟩] r2) ?_ e r hr
       have : GdP 1 1 1 N (fun r => wordR 3 r fun s r2 => .ok [⟨4, 0, t.s, s⟩] r2) := GdP.tok (s := 0) (n := 0) (c := fun t => t.kind == 3) (g := fun u r2 => .ok [⟨4, 0, t.s, u.s⟩] r2) fun u hu _ _ => GdP.ok (one_gd ⟨by show t.s.size ≤ 61; omega, hu.sz, by show (-9223372036854775808 : Int) ≤ 0; omega, by show (0 : Int) ≤ _; omega⟩)
       exact (GdP.tail this).mono (by omega) (by omega) (Nat.le_refl _)
     split at hr
     · exact one _ ⟨by show 0 ≤ 61; omega, by show 0 ≤ 60; omega, by show (-9223372036854775808 : Int) ≤ 1; omega, by show (1 : Int) ≤ _; omega⟩ e r hr
     split at hr
     · exact one _ ⟨by show 0 ≤ 61; omega, by show 0 ≤ 60; omega, by show (-9223372036854775808 : Int) ≤ 0; omega, by show (0 : Int) ≤ _; omega⟩ e r hr
     split at hr
     · cases hr
     · exact one _ ⟨by show t.s.size ≤ 61; omega, by show 0 ≤ 60; omega, by show (-9223372036854775808 : Int) ≤ 0; omega, by show (0 : Int) ≤ _; omega⟩ e r hr
   split at hr
   · cases q with
     | nil => cases hr
     | cons u q' =>
       unfold minusR at hr
       dsimp only at hr
       split at hr
       · unfold numA at hr
         split at hr
         · rename_i n hn
           injection hr with h1 h2; subst h1 h2
           exact ⟨one_gd ⟨by show 0 ≤ 61; omega, by show 0 ≤ 60; omega, (numW_in hn).1, (numW_in hn).2⟩, fun v hv => hq v (by simp [hv]), by simp, by simp; omega⟩
         · cases hr
       · cases hr
   split at hr
   · refine lift (s := 2) (p := fun r => (wh r).bind fun e r2 => needR [41] r2 fun r3 => .ok e r3) ?_ e r hr
     exact (h1.bind (s' := 1) (n' := 1) (b := 0) fun e he _ => GdP.tok (s := 0) (n := 0) (c := isS [41]) (g := fun _ r3 => .ok e r3) fun _ _ _ _ => GdP.ok he).mono (Nat.le_refl _) (by omega) (Nat.le_refl _)
   split at hr
   · exact lift h2 e r hr
   split at hr
   · exact lift h3 e r hr
   · cases hr
def PT.acc : PT → Nat
 | .lp _ e => e.length | .po e => e.length | .se ps => ps.flatten.length + 1 | .re ps _ => ps.flatten.length + 1 | _ => 0
def PT.gd (N : Nat) : PT → Prop
 | .lp _ e => ∀ y ∈ e, NdG y
 | .po e => ∀ y ∈ e, NdG y
 | .se ps => ps.length + N ≤ 1000 ∧ ∀ y ∈ ps.flatten, NdG y
 | .re ps _ => ps.length + N ≤ 1000 ∧ ∀ y ∈ ps.flatten, NdG y
 | _ => True
theorem subT_gd (N l : Nat) : (subT l).gd N ∧ (subT l).acc = 0 := by unfold subT; (repeat' split) <;> exact ⟨trivial, rfl⟩
theorem flat_gd {ps : List (List Nd)} {e : List Nd} (h : ∀ y ∈ ps.flatten, NdG y) (he : ∀ y ∈ e, NdG y) : ∀ y ∈ (ps ++ [e]).flatten, NdG y := by
 rw [List.flatten_append]
 exact app_gd h (by simpa using he)
theorem pa_gd : ∀ (f N : Nat) (a : PT), N ≤ 1000 → a.gd N → GdP a.starts 0 a.acc N (pa f a) := by
 intro f
 induction f with
 | zero => intro N a _ _ ts _ _ e r hr; cases hr
 | succ f ih =>
   intro N a hN ha
   have ihw : ∀ M, M ≤ 1000 → GdP 1 0 0 M (pa f .whole) := fun M hM => ih M .whole hM trivial
   cases a with
   | whole =>
     have : GdP 1 0 0 N (fun ts => if hdN wIf ts = true ∧ hdS wCol ts.tail = false then (fun ts => (pa f .whole ts).bind fun c r => needN wThen r fun r => (pa f .whole r).bind fun a r => needN wElse r fun r => (pa f .whole r).bind fun b r => .ok (opX 13 (c ++ a ++ b)) r) ts.tail else pa f (.ch 1) ts) := by
       refine GdP.ite (GdP.mono (GdP.tail (GdP.bind (s' := 4) (n' := 2) (b := 1) (ihw N hN) fun c hc _ => GdP.tok (c := isN wThen) (s := 3) (n := 1) (g := fun _ r => (pa f .whole r).bind fun a r => needN wElse r fun r => (pa f .whole r).bind fun b r => .ok (opX 13 (c ++ a ++ b)) r) fun _ _ _ _ => ?_)) (s' := 1) (by omega) (by omega) (Nat.le_refl _)) (ih N (.ch 1) hN trivial)
       refine GdP.mono (GdP.bind (s' := 2) (n' := 1) (b := c.length + 1) (ihw _ (by omega)) fun a ha _ => GdP.tok (c := isN wElse) (s := 1) (n := 0) (g := fun _ r => (pa f .whole r).bind fun b r => .ok (opX 13 (c ++ a ++ b)) r) fun _ _ _ _ => ?_) (by omega) (by omega) (Nat.le_refl _)
       refine GdP.mono (GdP.bind (s' := 0) (n' := 0) (b := c.length + a.length + 1) (ihw _ (by omega)) fun b hb _ => (GdP.ok (opX_gd (app_gd (app_gd hc ha) hb))).mono (Nat.le_refl _) (by simp [opX]; omega) (Nat.le_refl _)) (by omega) (by omega) (Nat.le_refl _)
     exact this
   | ch l =>
     obtain ⟨g1, g2⟩ := subT_gd N l
     have := (ih N (subT l) hN g1)
     rw [subT_starts, g2] at this
     exact (this.bind (s' := 0) (n' := 0) (b := 0) fun e he _ => ih (N - 1) (.lp l e) (by omega) he).mono (by show (1 : Nat) ≤ _; omega) (by show 0 + _ ≤ _ + 0; omega) (Nat.le_refl _)
   | lp l e0 =>
     intro ts ht hl e r hr
     cases ts with
     | nil => injection hr with h1 h2; subst h1 h2; exact ⟨ha, ht, by simp [PT.starts], by simp [PT.acc]⟩
     | cons t q =>
       simp only [pa] at hr
       by_cases hc : chOp l t = 0
       · rw [if_pos hc] at hr; injection hr with h1 h2; subst h1 h2; exact ⟨ha, ht, by simp [PT.starts], by simp [PT.acc]; omega⟩
       · rw [if_neg hc] at hr
         rw [List.length_cons] at hl
         obtain ⟨g1, g2⟩ := subT_gd (N - 1) l
         have h1 := ih (N - 1) (subT l) (by omega) g1
         rw [subT_starts, g2] at h1
         have h2 := (h1.bind (s' := 0) (n' := 0) (b := e0.length + 1) fun e2 he2 _ => (ih (N - 1 - 1) (.lp l (opX (chOp l t) (e0 ++ e2))) (by omega) (opX_gd (app_gd ha he2))).mono (Nat.le_refl _) (by simp [PT.acc, opX]; omega) (Nat.le_refl _)) q (fun u hu => ht u (by simp [hu])) (by omega) e r hr
         have l2 := h2.ln; have n2 := h2.nd
         exact ⟨h2.gd, h2.tk, by simp [PT.starts]; omega, by simp [PT.acc]; omega⟩
   | rel =>
     refine GdP.mono (GdP.bind (x := pa f (.ch 4)) (s' := 0) (n' := 0) (b := 0) (g := fun e r => if relOp r ≠ 0 then (fun q => (pa f (.ch 4) q).bind fun e2 r2 => .ok (opX (relOp r) (e ++ e2)) r2) r.tail
       else if relWd r ≠ 0 then wordR (if relWd r = 23 then 3 else 1) r.tail fun s r2 => .ok (opS (relWd r) s e) r2
       else .ok e r) (ih N (.ch 4) hN trivial) fun e he hs => ?_) (Nat.le_refl _) (Nat.le_refl _) (Nat.le_refl _)
     intro ts ht hl e' r hr
     dsimp only at hr
     by_cases hc : relOp ts ≠ 0
     · rw [if_pos hc] at hr
       cases ts with
       | nil => exact absurd rfl hc
       | cons t q =>
         rw [List.length_cons] at hl
         generalize relOp (t :: q) = o at hr
         have h2 := ((ih (N - 1) (.ch 4) (by omega) trivial).bind (s' := 0) (n' := 0) (b := e.length + 1) fun e2 he2 _ => (GdP.ok (opX_gd (o := o) (app_gd he he2))).mono (Nat.le_refl _) (by simp [opX]; omega) (Nat.le_refl _)) q (fun u hu => ht u (by simp [hu])) (by simp [PT.starts] at hl ⊢; omega) e' r hr
         have l2 := h2.ln; have n2 := h2.nd
         exact ⟨h2.gd, h2.tk, by simp [PT.starts] at l2 ⊢; omega, by simp [PT.acc] at n2 ⊢; omega⟩
     · rw [if_neg hc] at hr
       by_cases hd : relWd ts ≠ 0
       · rw [if_pos hd] at hr
         generalize relWd ts = o at hr
         have h2 := (GdP.tail (GdP.tok (c := fun t => t.kind == (if o = 23 then 3 else 1)) (s := 0) (n := 0) (a := e.length + 1) (N := N) (g := fun u r2 => .ok (opS o u.s e) r2) fun u hu _ _ => (GdP.ok (opS_gd (o := o) hu.sz he)).mono (Nat.le_refl _) (by simp [opS]) (Nat.le_refl _))) ts ht (by omega) e' r hr
         have l2 := h2.ln; have n2 := h2.nd
         exact ⟨h2.gd, h2.tk, by omega, by omega⟩
       · rw [if_neg hd] at hr
         injection hr with h1 h2; subst h1 h2
         exact ⟨he, ht, by omega, by omega⟩
   | sign =>
     have hs1 : GdP 1 0 1 N (fun ts => (pa f .sign ts).bind fun e r => .ok (opX 9 e) r) := (GdP.bind (ih N .sign hN trivial) (s' := 0) (n' := 0) (b := 1) fun e he _ => (GdP.ok (opX_gd he)).mono (Nat.le_refl _) (by simp [opX]) (Nat.le_refl _)).mono (by show 1 ≤ 1 + 0; omega) (by show 0 + (0 + 1) ≤ _; omega) (Nat.le_refl _)
     have hs2 : GdP 1 0 1 N (fun ts => (pa f .sign ts).bind fun e r => .ok (opX 10 e) r) := (GdP.bind (ih N .sign hN trivial) (s' := 0) (n' := 0) (b := 1) fun e he _ => (GdP.ok (opX_gd he)).mono (Nat.le_refl _) (by simp [opX]) (Nat.le_refl _)).mono (by show 1 ≤ 1 + 0; omega) (by show 0 + (0 + 1) ≤ _; omega) (Nat.le_refl _)
     have hs3 : GdP 1 0 0 N (fun ts => (pa f .atom ts).bind fun e r => pa f (.po e) r) := (GdP.bind (ih N .atom hN trivial) (s' := 0) (n' := 0) (b := 0) fun e he _ => ih (N - 1) (.po e) (by omega) he).mono (by show 1 ≤ 1 + 0; omega) (by show 0 + (0 + 0) ≤ _; omega) (Nat.le_refl _)
     have := GdP.head (s := 0) (n := 0) (a := 0) (N := N) (c := fun ts => hdS [33] ts = true) (by simp [hdS]) (hs1.mono (by omega) (by omega) (Nat.le_refl _)) (GdP.head (s := 0) (n := 0) (a := 0) (N := N) (c := fun ts => hdS [45] ts = true ∧ hdK 2 ts.tail = false) (by simp [hdS]) (hs2.mono (by omega) (by omega) (Nat.le_refl _)) (hs3.mono (by omega) (by omega) (Nat.le_refl _)))
     exact this
   | po e0 =>
     have ha : ∀ y ∈ e0, NdG y := ha
     have : GdP 0 0 e0.length N (fun ts => if hdS [46] ts = true then (fun ts => wordR 1 ts fun s r =>
     if dotOp s.toList = 0 ∨ hdS [40] r = false then pa f (.po (opS 22 s e0)) r
     else (pa f .whole r.tail).bind fun e2 r2 => needR [41] r2 fun r3 => pa f (.po (opX (dotOp s.toList) (e0 ++ e2))) r3) ts.tail else .ok e0 ts) := by
       refine GdP.ite (GdP.mono (GdP.tail (GdP.tok (c := fun t => t.kind == 1) (s := 0) (n := 0) (a := e0.length + 1) (g := fun t r => if dotOp t.s.toList = 0 ∨ hdS [40] r = false then pa f (.po (opS 22 t.s e0)) r
     else (pa f .whole r.tail).bind fun e2 r2 => needR [41] r2 fun r3 => pa f (.po (opX (dotOp t.s.toList) (e0 ++ e2))) r3) fun t ht _ _ => ?_)) (by omega) (by omega) (Nat.le_refl _)) (GdP.ok ha)
       refine GdP.ite ((ih (N - 1) (.po (opS 22 t.s e0)) (by omega) (opS_gd ht.sz ha)).mono (Nat.le_refl _) (by simp [PT.acc, opS]) (Nat.le_refl _)) ?_
       refine GdP.mono (GdP.tail (p := fun r => (pa f .whole r).bind fun e2 r2 => needR [41] r2 fun r3 => pa f (.po (opX (dotOp t.s.toList) (e0 ++ e2))) r3) (GdP.bind (s' := 1) (n' := 1) (b := e0.length + 1) (ihw (N - 1) (by omega)) fun e2 he2 _ => GdP.tok (c := isS [41]) (s := 0) (n := 0) (g := fun _ r3 => pa f (.po (opX (dotOp t.s.toList) (e0 ++ e2))) r3) fun _ _ _ _ => ?_)) (by omega) (by omega) (Nat.le_refl _)
       exact (ih _ (.po (opX (dotOp t.s.toList) (e0 ++ e2))) (by omega) (opX_gd (app_gd ha he2))).mono (Nat.le_refl _) (by simp [PT.acc, opX]; omega) (Nat.le_refl _)
     exact this
   | atom =>
     cases N with
     | zero =>
       intro ts _ hl e r hr
       have : ts = [] := List.length_eq_zero_iff.1 (by omega)
       subst this; cases hr
     | succ N => exact GdP.atom (ihw N (by omega)) ((ih N (.se []) (by omega) ⟨by simp; omega, by simp⟩).mono (Nat.le_refl _) (by simp [PT.acc]) (Nat.le_refl _)) ((ih N (.re [] ⟨#[]⟩) (by omega) ⟨by simp; omega, by simp⟩).mono (Nat.le_refl _) (by simp [PT.acc]) (Nat.le_refl _))
   | se ps =>
     obtain ⟨h1, h2⟩ := ha
     have hgo : ∀ M, M ≤ N → GdP 0 0 (ps.flatten.length + 1) M (fun ts => (pa f .whole ts).bind fun e r => pa f (.se (ps ++ [e])) r) := fun M hM =>
       (GdP.bind (ihw M (by omega)) (s' := 0) (n' := 0) (b := ps.flatten.length + 1) fun e he hs => (ih (M - 1) (.se (ps ++ [e])) (by omega) ⟨by rw [List.length_append, List.length_singleton]; omega, flat_gd h2 he⟩).mono (Nat.le_refl _) (by simp [PT.acc]; omega) (Nat.le_refl _)).mono (by omega) (by omega) (Nat.le_refl _)
     have : GdP 0 0 (ps.flatten.length + 1) N (fun ts => if hdS [93] ts = true then (fun ts => Pr.ok (⟨5, ps.length, ⟨#[]⟩, ⟨#[]⟩⟩ :: ps.flatten) ts) ts.tail else if ps = [] then (pa f .whole ts).bind fun e r => pa f (.se (ps ++ [e])) r else needR [44] ts fun r => (pa f .whole r).bind fun e r => pa f (.se (ps ++ [e])) r) := by
       refine GdP.ite (GdP.tail (GdP.ok (list_gd (m := ps.length) (by omega) h2))) (GdP.ite (c := fun _ => ps = []) (hgo N (Nat.le_refl _)) ?_)
       exact (GdP.tok (c := isS [44]) (s := 0) (n := 0) (N := N) (g := fun _ r => (pa f .whole r).bind fun e r => pa f (.se (ps ++ [e])) r) fun _ _ _ _ => hgo (N - 1) (by omega)).mono (by omega) (by omega) (Nat.le_refl _)
     exact this
   | re ps last =>
     obtain ⟨h1, h2⟩ := ha
     have hgo : ∀ M, M ≤ N → GdP 0 0 (ps.flatten.length + 1) M (fun ts => tokR (fun t => t.kind == 1 && !sLate last t.s) ts fun t r1 => needR [58] r1 fun r2 => (pa f .whole r2).bind fun e r3 => pa f (.re (ps ++ [opS 7 t.s e]) t.s) r3) := fun M hM =>
       (GdP.tok (c := fun t => t.kind == 1 && !sLate last t.s) (s := 2) (n := 1) (a := ps.flatten.length + 2) (N := M) (g := fun t r1 => needR [58] r1 fun r2 => (pa f .whole r2).bind fun e r3 => pa f (.re (ps ++ [opS 7 t.s e]) t.s) r3) fun t ht _ _ => GdP.tok (c := isS [58]) (s := 1) (n := 0) (g := fun _ r2 => (pa f .whole r2).bind fun e r3 => pa f (.re (ps ++ [opS 7 t.s e]) t.s) r3) fun _ _ _ _ =>
         (GdP.bind (ihw _ (by omega)) (s' := 0) (n' := 0) (b := ps.flatten.length + 2) fun e he hs => (ih _ (.re (ps ++ [opS 7 t.s e]) t.s) (by omega) ⟨by rw [List.length_append, List.length_singleton]; omega, flat_gd h2 (opS_gd ht.sz he)⟩).mono (Nat.le_refl _) (by simp [PT.acc, opS]; omega) (Nat.le_refl _)).mono (by omega) (by omega) (Nat.le_refl _)).mono (by omega) (by omega) (Nat.le_refl _)
     have : GdP 0 0 (ps.flatten.length + 1) N (fun ts => if hdS [125] ts = true then (fun ts => Pr.ok (⟨6, ps.length, ⟨#[]⟩, ⟨#[]⟩⟩ :: ps.flatten) ts) ts.tail else if ps = [] then (tokR (fun t => t.kind == 1 && !sLate last t.s) ts fun t r1 => needR [58] r1 fun r2 => (pa f .whole r2).bind fun e r3 => pa f (.re (ps ++ [opS 7 t.s e]) t.s) r3) else needR [44] ts fun ts => tokR (fun t => t.kind == 1 && !sLate last t.s) ts fun t r1 => needR [58] r1 fun r2 => (pa f .whole r2).bind fun e r3 => pa f (.re (ps ++ [opS 7 t.s e]) t.s) r3) := by
       refine GdP.ite (GdP.tail (GdP.ok (list_gd (m := ps.length) (by omega) h2))) (GdP.ite (c := fun _ => ps = []) (hgo N (Nat.le_refl _)) ?_)
       exact (GdP.tok (c := isS [44]) (s := 0) (n := 0) (N := N) (g := fun _ ts => tokR (fun t => t.kind == 1 && !sLate last t.s) ts fun t r1 => needR [58] r1 fun r2 => (pa f .whole r2).bind fun e r3 => pa f (.re (ps ++ [opS 7 t.s e]) t.s) r3) fun _ _ _ _ => hgo (N - 1) (by omega)).mono (by omega) (by omega) (Nat.le_refl _)
     exact this
theorem wordP_let {c : UInt8} {r : List UInt8} {k : Int} {t : List UInt8} {n : Nat} (h : wordP (c :: r) = .ok k t n) : (k = 1 → letB c = true) ∧ (k = 5 → letB c = false) := by
 rw [wordP] at h
 split at h
 · unfold numP at h
   split at h
   · cases h
   · injection h with h1; subst h1; exact ⟨by simp, by simp⟩
 split at h
 · rename_i hl
   unfold namedP at h
   split at h
   · injection h with h1; subst h1; exact ⟨fun _ => hl, by simp⟩
   · cases h
 rename_i hl
 split at h
 · have := (quoP_n h).2.2; subst this; exact ⟨by simp, by simp⟩
 split at h
 · unfold namedP at h
   split at h
   · injection h with h1; subst h1; exact ⟨by simp, by simp⟩
   · cases h
 split at h
 · cases h
 · injection h with h1; subst h1; exact ⟨by simp, fun _ => by simpa using hl⟩
theorem tkS_of {t : Tk} (h : (speltP t).2 = true) : TkS t := by
 by_cases h3 : t.kind = 3
 · rw [speltP_text h3] at h
   split at h
   · rename_i ht
     have := (plain_all ht).1
     rw [toList_len] at this
     exact ⟨this, fun h => by omega, fun h => by omega⟩
   · cases h
 by_cases h4 : t.kind = 4
 · rw [speltP_slot h4, decide_eq_true_eq] at h
   have := (nameErr_zero h).2.1
   rw [toList_len] at this
   exact ⟨by omega, fun h => by omega, fun h => by omega⟩
 rw [speltP_bare h3 h4] at h
 cases hs : t.s.toList with
 | nil => rw [hs] at h; cases h
 | cons c r =>
   rw [hs] at h
   simp only [bareP, Bool.and_eq_true] at h
   obtain ⟨-, h⟩ := h
   split at h
   · rename_i k u n hw
     simp only [Bool.and_eq_true, decide_eq_true_eq] at h
     obtain ⟨⟨e1, e2⟩, e3⟩ := h
     subst e3
     rw [e2] at hw
     have h20 := (wordP_kind hw h3 h4).2.2.2 e1 rfl
     rw [← hs, toList_len] at h20
     obtain ⟨l1, l5⟩ := wordP_let hw
     exact ⟨by omega, fun h => ⟨c, r, hs, l1 h⟩, fun h => ⟨c, r, hs, l5 h⟩⟩
   · cases h
theorem isW_nm {t : Tk} (h : TkS t) {c : UInt8} {r : List UInt8} (hc : letB c = true) : isW (c :: r) t = isN (c :: r) t := by
 unfold isW isN
 by_cases h5 : t.kind = 5
 · obtain ⟨d, q, e, hd⟩ := h.sg h5
   have : (t.s.toList == c :: r) = false := by rw [e, beq_eq_false_iff_ne]; intro he; injection he with he; subst he; rw [hc] at hd; cases hd
   rw [this]; simp
 · have : (t.kind == 5) = false := by simpa using h5
   rw [this]; simp
theorem isW_sg {t : Tk} (h : TkS t) {c : UInt8} {r : List UInt8} (hc : letB c = false) : isW (c :: r) t = isS (c :: r) t := by
 unfold isW isS
 by_cases h1 : t.kind = 1
 · obtain ⟨d, q, e, hd⟩ := h.nm h1
   have : (t.s.toList == c :: r) = false := by rw [e, beq_eq_false_iff_ne]; intro he; injection he with he; subst he; rw [hc] at hd; cases hd
   rw [this]; simp
 · have : (t.kind == 1) = false := by simpa using h1
   rw [this]; simp
theorem hdW_nm {ts : List Tk} (h : ∀ t ∈ ts, TkS t) {c : UInt8} {r : List UInt8} (hc : letB c = true) : hdW (c :: r) ts = hdN (c :: r) ts := by
 cases ts with
 | nil => rfl
 | cons t q => exact isW_nm (h t (by simp)) hc
theorem hdW_sg {ts : List Tk} (h : ∀ t ∈ ts, TkS t) {c : UInt8} {r : List UInt8} (hc : letB c = false) : hdW (c :: r) ts = hdS (c :: r) ts := by
 cases ts with
 | nil => rfl
 | cons t q => exact isW_sg (h t (by simp)) hc
end Go.Proofs.YtbggbcnfkcadjaaGreatDoor
namespace Go.Proofs.YtbggbcnfkcadjaaGreatDoor
open Go.RowKit
def SpT (t : Tk) : Prop := (speltP t).2 = true
theorem bare_of {kind : Int} {c : UInt8} {r : List UInt8} (h3 : ¬ kind = 3) (h4 : ¬ kind = 4) (h : (c == 32 || c == 34 || c == 63) = false) (hw : wordP (c :: r) = .ok kind (c :: r) (c :: r).length) {s : ByteArray} (hs : s.toList = c :: r) : SpT ⟨kind, s, 0⟩ := by
 show (speltP _).2 = true
 rw [speltP_bare h3 h4]
 show bareP kind s.toList = true
 rw [hs]
 unfold bareP
 dsimp only
 rw [h, hw]
 simp
theorem sp_nm {s : ByteArray} (h : nameErr s.toList = 0) : SpT ⟨1, s, 0⟩ := by
 obtain ⟨h1, h2, c, r, e, hc⟩ := nameErr_zero h
 rw [e] at h1
 have e32 : letB 32 = false := by decide
 have e34 : letB 34 = false := by decide
 have e63 : letB 63 = false := by decide
 refine bare_of (by decide) (by decide) ?_ ?_ e
 · simp only [Bool.or_eq_false_iff, beq_eq_false_iff_ne]
   exact ⟨⟨(by rintro rfl; rw [e32] at hc; cases hc), (by rintro rfl; rw [e34] at hc; cases hc)⟩, (by rintro rfl; rw [e63] at hc; cases hc)⟩
 · have hd : digB c = false := by
     cases hd : digB c with
     | false => rfl
     | true =>
       unfold letB letterI at hc
       unfold digB digitI at hd
       simp only [Bool.or_eq_true, Bool.and_eq_true, decide_eq_true_eq, beq_iff_eq] at hc hd
       omega
   rw [wordP, if_neg (by rw [hd]; simp), if_pos hc]
   unfold namedP
   rw [h1, if_pos (by rw [← e]; exact h)]
   rfl
theorem sp_tx {s : ByteArray} (h : textErr s.toList = 0) : SpT ⟨3, s, 0⟩ := by
 show (speltP _).2 = true
 rw [speltP_text rfl, if_pos h]
theorem sp_sl {s : ByteArray} (h : nameErr s.toList = 0) : SpT ⟨4, s, 0⟩ := by
 show (speltP _).2 = true
 rw [speltP_slot rfl]; exact decide_eq_true h
theorem sp_sg {l : List UInt8} (h : bareP 5 l = true) : SpT (tSg l) := by
 show (speltP _).2 = true
 rw [speltP_bare (x := tSg l) (show ¬ (5 : Int) = 3 by decide) (show ¬ (5 : Int) = 4 by decide)]
 show bareP 5 (bsOf l).toList = true
 rw [bsOf_list]; exact h
theorem sp_nl {l : List UInt8} (h : nameErr l = 0) : SpT (tNm l) := sp_nm (s := bsOf l) (by rw [bsOf_list]; exact h)
theorem dec_len : ∀ (k u : Nat), u < 10 ^ (k + 1) → (Lib.decDigits u).length ≤ k + 1 := by
 intro k
 induction k with
 | zero => intro u h; rw [Lib.decDigits, dif_pos (by omega)]; simp
 | succ k ih =>
   intro u h
   rw [Lib.decDigits]
   split
   · simp
   · have := ih (u / 10) (by rw [Nat.pow_succ] at h; exact Nat.div_lt_of_lt_mul (by omega))
     simp; omega
theorem dec_all (u : Nat) : ∀ c ∈ Lib.decDigits u, digB c = true := by
 induction u using Nat.strongRecOn with
 | _ u ih =>
   intro c hc
   have hd : ∀ v, v < 10 → digB (UInt8.ofNat (48 + v)) = true := by
     intro v hv
     have : (UInt8.ofNat (48 + v)).toNat = 48 + v := by simp; omega
     unfold digB digitI
     rw [this]
     simp; omega
   rw [Lib.decDigits] at hc
   split at hc
   · rw [List.mem_singleton] at hc; subst hc; exact hd _ (by omega)
   · rename_i h
     rcases List.mem_append.1 hc with hc | hc
     · exact ih _ (by omega) c hc
     · rw [List.mem_singleton] at hc; subst hc; exact hd _ (by omega)
theorem dec_top (u : Nat) (h : 1 ≤ u) : ∃ c l, Lib.decDigits u = c :: l ∧ c ≠ 48 := by
 induction u using Nat.strongRecOn with
 | _ u ih =>
   rw [Lib.decDigits]
   by_cases h10 : u < 10
   · rw [dif_pos h10]
     refine ⟨_, _, rfl, fun e => ?_⟩
     have hc : (UInt8.ofNat (48 + u)).toNat = 48 + u := by simp; omega
     rw [e] at hc
     have : (48 : UInt8).toNat = 48 := by decide
     omega
   · rw [dif_neg h10]
     obtain ⟨c, l, e, h1⟩ := ih (u / 10) (by omega) (by omega)
     rw [e]; exact ⟨c, l ++ _, rfl, h1⟩
theorem word_dec {u : Nat} (h : u ≤ 9223372036854775808) {c : UInt8} {r : List UInt8} (e : Lib.decDigits u = c :: r) : wordP (c :: r) = .ok 2 (c :: r) (c :: r).length := by
 have hall := dec_all u
 have hlen := dec_len 18 u (by have : (10 : Nat) ^ (18 + 1) = 10000000000000000000 := by decide
                               omega)
 have htop := dec_top u
 have ht : (c :: r).takeWhile digB = c :: r := tw_self _ (List.all_eq_true.2 (by rw [← e]; exact hall))
 rw [wordP, if_pos (hall c (by rw [e]; simp))]
 unfold numP
 rw [ht]
 by_cases h0 : u = 0
 · subst h0
   have : Lib.decDigits 0 = [48] := by rw [Lib.decDigits]; rfl
   rw [this] at e
   injection e with e1 e2
   subst e1 e2
   rfl
 · obtain ⟨c', l', e', hc'⟩ := htop (by omega)
   rw [e] at e'
   injection e' with e1 e2
   subst e1 e2
   have hd : (c :: r).dropWhile (· == 48) = c :: r := by rw [List.dropWhile_cons_of_neg (by simpa using hc')]
   rw [hd, if_neg (by rw [← e]; omega), if_neg (by simp)]
theorem sp_nu {n : Int} (h0 : 0 ≤ n) (h : n ≤ 9223372036854775808) : SpT ⟨2, bsOf (Lib.itoa n), 0⟩ := by
 have hi : Lib.itoa n = Lib.decDigits n.toNat := by unfold Lib.itoa; rw [if_neg (by omega)]
 obtain ⟨c, l, e, h1, h2⟩ := dec_head n.toNat
 refine bare_of (c := c) (r := l) (by decide) (by decide) ?_ (word_dec (u := n.toNat) (by omega) e) (by rw [bsOf_list, hi, e])
 simp only [Bool.or_eq_false_iff, beq_eq_false_iff_ne]
 refine ⟨⟨?_, ?_⟩, ?_⟩ <;> rintro rfl <;> revert h1 h2 <;> decide
theorem all_cons {p : Tk → Prop} {t : Tk} {l : List Tk} (h1 : p t) (h2 : ∀ u ∈ l, p u) : ∀ u ∈ t :: l, p u := fun u hu => (List.mem_cons.1 hu).elim (fun e => e ▸ h1) (h2 u)
theorem all_app {p : Tk → Prop} {k l : List Tk} (h1 : ∀ u ∈ k, p u) (h2 : ∀ u ∈ l, p u) : ∀ u ∈ k ++ l, p u := fun u hu => (List.mem_append.1 hu).elim (h1 u) (h2 u)
theorem all_nil {p : Tk → Prop} : ∀ u ∈ ([] : List Tk), p u := fun u hu => by cases hu
theorem sp_leaf {n : Nd} (hs : shapedT n = true) (ho : n.op = 1 ∨ n.op = 2 ∨ n.op = 3 ∨ n.op = 4 ∨ n.op = 8) (hk : n.op = 2 → -9223372036854775808 ≤ n.n ∧ n.n ≤ 9223372036854775807) : ∀ t ∈ leafT n, SpT t := by
 have hv : n.op ≠ 8 → shapedV n = true := fun h8 => by
   unfold shapedT at hs
   rw [if_pos (by omega)] at hs
   exact val_one (by simpa using hs)
 unfold leafT
 rcases ho with h | h | h | h | h
 · rw [if_pos h]
   refine all_cons (sp_nl ?_) all_nil
   split <;> decide
 · rw [if_neg (by omega), if_pos h]
   have := hk h
   unfold numT
   split
   · exact all_cons (sp_sg (by decide)) (all_cons (sp_nu (by omega) (by omega)) all_nil)
   · exact all_cons (sp_nu (by omega) (by omega)) all_nil
 · rw [if_neg (by omega), if_neg (by omega), if_pos h]
   have hv := hv (by omega)
   unfold shapedV at hv
   rw [if_neg (by omega), if_neg (by omega), if_pos h] at hv
   simp only [Bool.and_eq_true, beq_iff_eq, List.isEmpty_iff] at hv
   exact all_cons (sp_tx hv.2) all_nil
 · rw [if_neg (by omega), if_neg (by omega), if_neg (by omega), if_pos h]
   have hv := hv (by omega)
   unfold shapedV at hv
   rw [if_neg (by omega), if_neg (by omega), if_neg (by omega), if_pos h] at hv
   simp only [Bool.and_eq_true, beq_iff_eq] at hv
   exact all_cons (sp_nm hv.1.2) (all_cons (sp_sg (by decide)) (all_cons (sp_tx hv.2) all_nil))
 · rw [if_neg (by omega), if_neg (by omega), if_neg (by omega), if_neg (by omega)]
   have hv : variableB n.s.toList = true := by
     unfold shapedT at hs
     rw [if_neg (by omega), if_neg (by omega), if_pos h] at hs
     simp only [Bool.and_eq_true, beq_iff_eq, List.isEmpty_iff] at hs
     exact hs.2
   by_cases hq : ∃ l, n.s.toList = 63 :: l
   · obtain ⟨l, hq⟩ := hq
     have hvt : varT n.s = [⟨4, bsOf l, 0⟩] := by unfold varT; rw [hq]; rfl
     rw [hvt]
     rw [hq] at hv
     have hv : (if (63 : UInt8) = 63 then nameErr l == 0 else nameErr (63 :: l) == 0 && !reserved (63 :: l)) = true := hv
     rw [if_pos rfl] at hv
     exact all_cons (sp_sl (by rw [bsOf_list]; simpa using hv)) all_nil
   · have h63 : ∀ l, n.s.toList ≠ 63 :: l := fun l e => hq ⟨l, e⟩
     obtain ⟨-, hn⟩ := name_nores hv h63
     have hvt : varT n.s = [⟨1, n.s, 0⟩] := by
       unfold varT
       split
       · rename_i l e; exact absurd e (h63 l)
       · rfl
     rw [hvt]
     exact all_cons (sp_nm hn) all_nil
end Go.Proofs.YtbggbcnfkcadjaaGreatDoor
namespace Go.Proofs.YtbggbcnfkcadjaaGreatDoor
open Go.RowKit Go.Sort
def NdOff (g : Nat → Prop) (w : World) (B : Nat) (A : Option Addr) (xs : List Nd) : Prop :=
 xs ≠ [] → ∃ b o, A = some ⟨b, o, none⟩ ∧ b < B ∧ ¬ g b ∧ ∀ i x, xs[i]? = some x → NdAt w b (o + i * 4) x
theorem NdOff.sl {g : Nat → Prop} {w : World} {B : Nat} {A : Option Addr} {xs : List Nd} (h : NdOff g w B A xs) : NdSl w B A xs := fun hne => by
 obtain ⟨b, o, e, h1, _, h3⟩ := h hne
 exact ⟨b, o, e, h1, h3⟩
theorem NdSl.off {g : Nat → Prop} {w : World} {B B' : Nat} {A : Option Addr} {xs : List Nd} (h : NdSl w B A xs) (hB : ∀ b, g b → B ≤ b) (hB' : B ≤ B') : NdOff g w B' A xs := fun hne => by
 obtain ⟨b, o, e, h1, h3⟩ := h hne
 exact ⟨b, o, e, by omega, fun hg => by have := hB b hg; omega, h3⟩
theorem NdOff.keep {g : Nat → Prop} {w w' : World} {B B' : Nat} {A : Option Addr} {xs : List Nd} (h : NdOff g w B A xs) (hk : ∀ p : Addr, p.block < B → ¬ g p.block → w'.cell? p = w.cell? p) (hB : B ≤ B') : NdOff g w' B' A xs := fun hne => by
 obtain ⟨b, o, e, h1, h2, h3⟩ := h hne
 exact ⟨b, o, e, by omega, h2, fun i x hx => by
   obtain ⟨q0, q1, q2, q3⟩ := h3 i x hx
   exact ⟨(hk _ h1 h2).trans q0, (hk _ h1 h2).trans q1, (hk _ h1 h2).trans q2, (hk _ h1 h2).trans q3⟩⟩
theorem nd_info : (Tryz.prog.info? 29).map (fun i => (i.zero, i.size, i.bytes)) = some (some (.agg #[.int .i64 0, .int .i64 0, .string ⟨#[]⟩, .string ⟨#[]⟩]), 4, 48) := by kernel_rfl
structure NsM where
 A : Option Addr
 c : Nat
 e : List Nd
def NsM.cells (x : NsM) : List Value := [.slice x.A x.e.length x.c]
theorem ns_ok : EncOk NsM.cells 1 := ⟨fun _ => rfl, by omega, fun x u hu => by
 simp only [NsM.cells, List.mem_cons, List.not_mem_nil, or_false] at hu
 subst hu; rfl⟩
abbrev NsSl := SlG NsM.cells 1
structure NsGood (w : World) (B : Nat) (x : NsM) : Prop where
 sl : NdSl w B x.A x.e
 le : x.e.length ≤ x.c
 max : x.c ≤ 9223372036854775807
theorem NsGood.later {w w' : World} {x : NsM} (h : NsGood w w.heap.size x) (hb : Below w.heap.size w w') : NsGood w' w'.heap.size x := ⟨(h.sl.below hb).more hb.size, h.le, h.max⟩
structure NssAt (w : World) (A : Option Addr) (ps : List NsM) : Prop where
 sl : NsSl w w.heap.size A ps
 good : ∀ x ∈ ps, NsGood w w.heap.size x
theorem NssAt.later {w w' : World} {A : Option Addr} {ps : List NsM} (h : NssAt w A ps) (hb : Below w.heap.size w w') : NssAt w' A ps :=
 ⟨h.sl.later hb, fun x hx => (h.good x hx).later hb⟩
theorem nsSl_at {w : World} {B : Nat} {A : Option Addr} {xs : List NsM} (h : NsSl w B A xs) {i : Nat} {x : NsM} (hx : xs[i]? = some x) : ∃ b o, A = some ⟨b, o, none⟩ ∧ b < B ∧ w.cell? ⟨b, o + i, none⟩ = some (.slice x.A x.e.length x.c) := by
 obtain ⟨b, o, h1, h2, h3⟩ := h.at_ (List.getElem?_eq_some_iff.1 hx).1
 have := h3 i x hx 0 _ rfl
 rw [Nat.mul_one, Nat.add_zero] at this
 exact ⟨b, o, h1, h2, this⟩
def catN (ps : List NsM) : List Nd := ps.flatMap NsM.e
theorem catN_step {ps : List NsM} {k : Nat} {p : NsM} (h : ps[k]? = some p) : catN (ps.take (k + 1)) = catN (ps.take k) ++ p.e := by
 unfold catN
 rw [List.take_add_one, h, List.flatMap_append]; simp
theorem catN_le {ps : List NsM} (k : Nat) : (catN (ps.take k)).length ≤ (catN ps).length := by
 conv => rhs; rw [← List.take_append_drop k ps]
 unfold catN
 rw [List.flatMap_append, List.length_append]; omega
end Go.Proofs.YtbggbcnfkcadjaaGreatDoor
namespace Go.Proofs.YtbggbcnfkcadjaaGreatDoor
open Go.RowKit Go.Sort
structure NsOff (w : World) (q : Option Nat) (x : NsM) : Prop where
 off : NdOff (fun b => q = some b) w w.heap.size x.A x.e
 le : x.e.length ≤ x.c
 max : x.c ≤ 9223372036854775807
theorem NsOff.good {w : World} {q : Option Nat} {x : NsM} (h : NsOff w q x) : NsGood w w.heap.size x := ⟨h.off.sl, h.le, h.max⟩
theorem NsOff.grown {w w' : World} {q q' : Option Nat} {x : NsM} (h : NsOff w q x) (hg : w.grownBy w' q) (hq : q' = q ∨ q' = some w.heap.size) : NsOff w' q' x :=
 ⟨fun hne => by
   obtain ⟨b, o, e, h1, h2, h3⟩ := h.off hne
   have h2' : ¬ q = some b := h2
   have hk : ∀ i, w'.cell? ⟨b, i, none⟩ = w.cell? ⟨b, i, none⟩ := fun i => World.cell?_of_block (w := w) (a := ⟨b, i, none⟩) (hg.block b h1 (fun e => h2' e.symm))
   refine ⟨b, o, e, Nat.lt_of_lt_of_le h1 hg.size, ?_, fun i y hy => ?_⟩
   · show ¬ q' = some b
     rcases hq with rfl | rfl
     · exact h2'
     · intro hh; injection hh with hh; omega
   · obtain ⟨q0, q1, q2, q3⟩ := h3 i y hy
     exact ⟨(hk _).trans q0, (hk _).trans q1, (hk _).trans q2, (hk _).trans q3⟩, h.le, h.max⟩
theorem NsOff.later {w w' : World} {q : Option Nat} {x : NsM} (h : NsOff w q x) (hb : RowKit.Below w.heap.size w w') : NsOff w' q x :=
 ⟨h.off.keep (fun _ hp _ => hb.cell hp) hb.size, h.le, h.max⟩
theorem NsGood.fresh {w : World} {B : Nat} {q : Option Nat} {x : NsM} (h : NsGood w w.heap.size x) (hn : ∀ b o, x.A = some ⟨b, o, none⟩ → B ≤ b) (hq : ∀ b, q = some b → b < B) : NsOff w q x :=
 ⟨fun hne => by
   obtain ⟨b, o, e, h1, h3⟩ := h.sl hne
   exact ⟨b, o, e, h1, fun hh => by have := hq b hh; have := hn b o e; omega, h3⟩, h.le, h.max⟩
theorem own_form_new {w : World} {base : Nat} {e : TypeId} {v : Value} {n : Nat} {xs : List Nd} (h : w.ownsRow base e 4 v n (flat xs)) :
   ∃ A c, v = .slice A n c ∧ n ≤ c ∧ c ≤ 9223372036854775807 ∧ NdSl w w.heap.size A xs ∧ ∀ b o, A = some ⟨b, o, none⟩ → base ≤ b := by
 obtain ⟨A, c, hv, hc, hm, hs⟩ := own_form (xs := xs) (ys := []) (by rw [show flat ([] : List Nd) = [] from rfl, List.append_nil]; exact h)
 rw [List.append_nil] at hs
 refine ⟨A, c, hv, hc, hm, hs, fun b o hA => ?_⟩
 subst hA
 rcases h.2 with ⟨h1, _⟩ | ⟨g, cap, cur, h1, hb, _⟩
 · rw [hv] at h1; cases h1
 · rw [hv] at h1; injection h1 with h1; injection h1 with h1; injection h1 with h1; omega
def NdsNew (w : World) (r : Ending) (w' : World) (xs : List Nd) : Prop :=
 ∃ A c, r = .returned (.slice A xs.length c) ∧ xs.length ≤ c ∧ c ≤ 9223372036854775807 ∧ NdSl w' w'.heap.size A xs ∧ RowKit.Below w.heap.size w w' ∧ ∀ b o, A = some ⟨b, o, none⟩ → w.heap.size ≤ b
theorem ns_info : (Tryz.prog.info? 22).map (fun i => (i.zero, i.size, i.bytes)) = some (some (.slice none 0 0), 1, 24) := by kernel_rfl
theorem own_lt {w : World} {base : Nat} {e : TypeId} {k : Nat} {v : Value} {n : Nat} {xs : List Value} (h : w.ownsRow base e k v n xs) {b : Nat} (hb : v.ownBlock = some b) : base ≤ b ∧ b < w.heap.size := by
 rcases h.2 with ⟨h1, _⟩ | ⟨g, cap, cur, h1, hbg, hg, _⟩
 · rw [h1] at hb; cases hb
 · rw [h1] at hb
   injection hb with hb
   have h2 : g = b := hb
   subst h2
   exact ⟨hbg, (Array.getElem?_eq_some_iff.1 hg).1⟩
theorem ns_snoc (ps : List NsM) (x : NsM) : flatG NsM.cells (ps ++ [x]) = flatG NsM.cells ps ++ [.slice x.A x.e.length x.c] := by rw [flatG_append, flatG_one]; rfl
end Go.Proofs.YtbggbcnfkcadjaaGreatDoor
