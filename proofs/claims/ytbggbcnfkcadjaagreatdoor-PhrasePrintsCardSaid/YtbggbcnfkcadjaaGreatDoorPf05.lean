/-
  PLAIN WORDS: the words of an expression.
  PLAIN WORDS: the pieces of an expression; other names. PLAIN LAW for MoveApart. PLAIN LAW for MoveApart. PLAIN WORDS: pieces in the order of their names; a name that stands there twice. PLAIN WORDS: the order of lists of nodes; values, piece by piece. PLAIN WORDS: values, piece by piece; a value and what the reader of values says. PLAIN LAW: what is moved stays what it is; there and back.
  PLAIN LAWS: which words are spelt so that they are read again.
  PLAIN LAWS: the words of an expression, by its parts.
  PLAIN LAWS: what the printer writes is read as what it was.
  PLAIN LAW: the words of an expression have just that expression.
  PLAIN LAW: the words of an expression have just that expression: by its parts.
  PLAIN LAW: the words of an expression have just that expression: whole.
  LISTS OF NODES IN MEMORY: in none of some blocks; lists of such lists.
  LISTS OF NODES IN MEMORY, off the row into which their slices are collected.
  PLAIN WORDS: a right word. PLAIN LAWS: the parser of phrases: how much is made of how many words; its nodes are small.
-/
import Derived.Test.YtbggbcnfkcadjaaGreatDoorPf04
import Derived.Lib.ItoaNum
import Derived.Test.YtbggbcnfkcadjaaGreatDoorPf01
import Derived.Sort.Walk0
import Derived.Sort.Statements
import Derived.Shelf.SlSortCmp.Insertion
import Derived.Test.YtbggbcnfkcadjaaGreatDoorPf03
import Derived.Lib.SliceRun
import Derived.Laws.OwnMore
import Derived.Maps.AppendAt
namespace Go.Proofs.YtbggbcnfkcadjaaGreatDoor
open Go.RowKit
def lvlW (o : Int) : Nat :=
 if o = 13 then 0 else if o = 12 then 1 else if o = 11 then 2
 else if o = 14 ∨ o = 15 ∨ o = 16 ∨ o = 20 ∨ o = 21 ∨ o = 23 ∨ o = 24 then 3
 else if o = 17 ∨ o = 18 then 4 else if o = 19 then 5 else if o = 9 ∨ o = 10 then 6
 else if o = 22 ∨ o = 25 ∨ o = 26 ∨ o = 27 then 7 else 8
def tNm (l : List UInt8) : Tk := ⟨1, bsOf l, 0⟩
def tSg (l : List UInt8) : Tk := ⟨5, bsOf l, 0⟩
def btwW (o : Int) : List UInt8 :=
 if o = 12 then [124, 124] else if o = 11 then [38, 38] else if o = 14 then [61, 61] else if o = 15 then [60] else if o = 16 then [60, 61]
 else if o = 20 then [105, 110] else if o = 17 then [43] else if o = 18 then [45] else if o = 19 then [42]
 else if o = 25 then [99, 111, 110, 116, 97, 105, 110, 115] else if o = 26 then [99, 111, 110, 116, 97, 105, 110, 115, 65, 108, 108]
 else if o = 27 then [99, 111, 110, 116, 97, 105, 110, 115, 65, 110, 121] else if o = 21 then [104, 97, 115] else if o = 24 then [105, 115] else [108, 105, 107, 101]
def nmdW (l : List UInt8) : Tk := if decide (97 ≤ (l.headD 0).toNat) && decide ((l.headD 0).toNat ≤ 122) then tNm l else tSg l
def firstN : List Nd → Bool
 | [] => false
 | n :: e => if lvlW n.op = 7 then firstN e else n.op == 2 && decide (0 ≤ n.n)
def partW (w : List Nd → List Tk × List Nd) (least : Nat) (e : List Nd) : List Tk × List Nd :=
 match e with
 | [] => ([], [])
 | m :: _ => if least ≤ lvlW m.op then w e else (tSg [40] :: ((w e).1 ++ [tSg [41]]), (w e).2)
def listW (w : List Nd → List Tk × List Nd) : Nat → Bool → List Nd → List Tk × List Nd
 | 0, _, e => ([], e)
 | c + 1, fst, e =>
   let pre := if fst then [] else [tSg [44]]
   match e with
   | [] => ([], [])
   | m :: e' =>
     if m.op = 7 then (pre ++ ⟨1, m.s, 0⟩ :: tSg [58] :: ((partW w 0 e').1 ++ (listW w c false (partW w 0 e').2).1), (listW w c false (partW w 0 e').2).2)
     else (pre ++ ((partW w 0 e).1 ++ (listW w c false (partW w 0 e).2).1), (listW w c false (partW w 0 e).2).2)
def numT (n : Int) : List Tk := if n < 0 then [tSg [45], ⟨2, bsOf (Lib.itoa (-n)), 0⟩] else [⟨2, bsOf (Lib.itoa n), 0⟩]
def varT (s : ByteArray) : List Tk := match s.toList with
 | 63 :: l => [⟨4, bsOf l, 0⟩]
 | _ => [⟨1, s, 0⟩]
def atomW (w : List Nd → List Tk × List Nd) (n : Nd) (e : List Nd) : List Tk × List Nd :=
 if n.op = 1 then ([tNm (if n.n = 1 then wTrue else wFalse)], e)
 else if n.op = 2 then (numT n.n, e)
 else if n.op = 3 then ([⟨3, n.s, 0⟩], e)
 else if n.op = 4 then ([⟨1, n.s, 0⟩, tSg wCol, ⟨3, n.t, 0⟩], e)
 else if n.op = 8 then (varT n.s, e)
 else if n.op = 5 then (tSg [91] :: ((listW w n.n.toNat true e).1 ++ [tSg [93]]), (listW w n.n.toNat true e).2)
 else if n.op = 6 then (tSg [123] :: ((listW w n.n.toNat true e).1 ++ [tSg [125]]), (listW w n.n.toNat true e).2)
 else ([], e)
def prN : Nat → List Nd → List Tk × List Nd
 | 0, e => ([], e)
 | _ + 1, [] => ([], [])
 | f + 1, n :: e =>
   if n.op = 13 then
     let a := partW (prN f) 0 e
     let b := partW (prN f) 0 a.2
     let c := partW (prN f) 0 b.2
     (tNm wIf :: (a.1 ++ tNm wThen :: (b.1 ++ tNm wElse :: c.1)), c.2)
   else if n.op = 12 ∨ n.op = 11 ∨ n.op = 17 ∨ n.op = 18 ∨ n.op = 19 then
     let a := partW (prN f) (lvlW n.op) e
     let b := partW (prN f) (lvlW n.op + 1) a.2
     (a.1 ++ tSg (btwW n.op) :: b.1, b.2)
   else if n.op = 14 ∨ n.op = 15 ∨ n.op = 16 ∨ n.op = 20 then
     let a := partW (prN f) 4 e
     let b := partW (prN f) 4 a.2
     (a.1 ++ nmdW (btwW n.op) :: b.1, b.2)
   else if n.op = 21 ∨ n.op = 24 ∨ n.op = 23 then
     let a := partW (prN f) 4 e
     (a.1 ++ [nmdW (btwW n.op), ⟨if n.op = 23 then 3 else 1, n.s, 0⟩], a.2)
   else if n.op = 9 then
     let a := partW (prN f) 6 e
     (tSg [33] :: a.1, a.2)
   else if n.op = 10 then
     let a := partW (prN f) (if firstN e = true then 9 else 6) e
     (tSg [45] :: a.1, a.2)
   else if n.op = 22 then
     let a := partW (prN f) 7 e
     (a.1 ++ [tSg [46], ⟨1, n.s, 0⟩], a.2)
   else if n.op = 25 ∨ n.op = 26 ∨ n.op = 27 then
     let a := partW (prN f) 7 e
     let b := partW (prN f) 0 a.2
     (a.1 ++ tSg [46] :: nmdW (btwW n.op) :: tSg [40] :: (b.1 ++ [tSg [41]]), b.2)
   else atomW (prN f) n e
def wordsW (e : List Nd) : List Tk := (prN e.length e).1
end Go.Proofs.YtbggbcnfkcadjaaGreatDoor
namespace Go.Proofs.YtbggbcnfkcadjaaGreatDoor
open Go.RowKit
def headS (p : List Nd) : ByteArray := (p.head?.map Nd.s).getD ⟨#[]⟩
def ExK : Bool → ByteArray → List (List Nd) → Prop
 | _, _, [] => True
 | r, l, p :: ps => Ex (.one r) p ∧ (r = true → sLate l (headS p) = false) ∧ ExK r (if r = true then headS p else l) ps
theorem ex_pieces {t : BTag} {xs : List Nd} (h : Ex t xs) : match t with
   | .one _ => True
   | .more c r l => ∃ ps : List (List Nd), ps.length = c ∧ xs = ps.flatten ∧ ExK r l ps := by
 induction h with
 | one n body fld hs h7 hb ih => trivial
 | nil r l => exact ⟨[], rfl, rfl, trivial⟩
 | cons c r l m xs ys hl hx hy ih1 ih2 =>
   obtain ⟨ps, h1, h2, h3⟩ := ih2
   exact ⟨(m :: xs) :: ps, by simp [h1], by rw [List.flatten_cons, ← h2], hx, hl, h3⟩
theorem exk_all : ∀ {ps : List (List Nd)} {r : Bool} {l : ByteArray}, ExK r l ps → ∀ p ∈ ps, Ex (.one r) p
 | p :: ps, r, l, h, q, hq => by
   rcases List.mem_cons.1 hq with rfl | hq
   · exact h.1
   · exact exk_all h.2.2 q hq
end Go.Proofs.YtbggbcnfkcadjaaGreatDoor
namespace Go.Proofs.YtbggbcnfkcadjaaGreatDoor
open Go.RowKit
end Go.Proofs.YtbggbcnfkcadjaaGreatDoor
namespace Go.Proofs.YtbggbcnfkcadjaaGreatDoor
open Go.RowKit Go.Sort
end Go.Proofs.YtbggbcnfkcadjaaGreatDoor
namespace Go.Proofs.YtbggbcnfkcadjaaGreatDoor
open Go.RowKit Go.Sort
end Go.Proofs.YtbggbcnfkcadjaaGreatDoor
namespace Go.Proofs.YtbggbcnfkcadjaaGreatDoor
open Go.RowKit Go.Sort
end Go.Proofs.YtbggbcnfkcadjaaGreatDoor
namespace Go.Proofs.YtbggbcnfkcadjaaGreatDoor
open Go.RowKit Go.Sort
end Go.Proofs.YtbggbcnfkcadjaaGreatDoor
namespace Go.Proofs.YtbggbcnfkcadjaaGreatDoor
open Go.RowKit
theorem bsOf_list (l : List UInt8) : (bsOf l).toList = l := by rw [ByteArray.toList_eq]; rfl
theorem bsOf_toList (s : ByteArray) : bsOf s.toList = s := by rw [ByteArray.toList_eq]; rfl
theorem bsOf_sz (l : List UInt8) : (bsOf l).size = l.length := by rw [← toList_len, bsOf_list]
end Go.Proofs.YtbggbcnfkcadjaaGreatDoor
namespace Go.Proofs.YtbggbcnfkcadjaaGreatDoor
open Go.RowKit
def ndQ : Nd := ⟨0, 0, ⟨#[]⟩, ⟨#[]⟩⟩
def lvlE (e : List Nd) : Nat := lvlW (e.headD ndQ).op
def partT (l : Nat) (e : List Nd) : List Tk := if l ≤ lvlE e then wordsW e else tSg [40] :: (wordsW e ++ [tSg [41]])
def itemT (p : List Nd) : List Tk := if (p.headD ndQ).op = 7 then ⟨1, (p.headD ndQ).s, 0⟩ :: tSg [58] :: wordsW p.tail else wordsW p
def itemsT : Bool → List (List Nd) → List Tk
 | _, [] => []
 | fst, p :: ps => (if fst then [] else [tSg [44]]) ++ (itemT p ++ itemsT false ps)
def leafT (n : Nd) : List Tk :=
 if n.op = 1 then [tNm (if n.n = 1 then wTrue else wFalse)]
 else if n.op = 2 then numT n.n
 else if n.op = 3 then [⟨3, n.s, 0⟩]
 else if n.op = 4 then [⟨1, n.s, 0⟩, tSg wCol, ⟨3, n.t, 0⟩]
 else varT n.s
def nodeT (n : Nd) (ps : List (List Nd)) : List Tk :=
 let a := ps.getD 0 []
 let b := ps.getD 1 []
 let c := ps.getD 2 []
 if n.op = 13 then tNm wIf :: (partT 0 a ++ tNm wThen :: (partT 0 b ++ tNm wElse :: partT 0 c))
 else if n.op = 12 ∨ n.op = 11 ∨ n.op = 17 ∨ n.op = 18 ∨ n.op = 19 then partT (lvlW n.op) a ++ tSg (btwW n.op) :: partT (lvlW n.op + 1) b
 else if n.op = 14 ∨ n.op = 15 ∨ n.op = 16 ∨ n.op = 20 then partT 4 a ++ nmdW (btwW n.op) :: partT 4 b
 else if n.op = 21 ∨ n.op = 24 ∨ n.op = 23 then partT 4 a ++ [nmdW (btwW n.op), ⟨if n.op = 23 then 3 else 1, n.s, 0⟩]
 else if n.op = 9 then tSg [33] :: partT 6 a
 else if n.op = 10 then tSg [45] :: partT (if firstN a = true then 9 else 6) a
 else if n.op = 22 then partT 7 a ++ [tSg [46], ⟨1, n.s, 0⟩]
 else if n.op = 25 ∨ n.op = 26 ∨ n.op = 27 then partT 7 a ++ tSg [46] :: nmdW (btwW n.op) :: tSg [40] :: (partT 0 b ++ [tSg [41]])
 else if n.op = 5 then tSg [91] :: (itemsT true ps ++ [tSg [93]])
 else if n.op = 6 then tSg [123] :: (itemsT true ps ++ [tSg [125]])
 else leafT n
theorem partW_some (f : Nat) (l : Nat) {p : List Nd} (rest : List Nd) (hne : p ≠ []) (h : prN f (p ++ rest) = (wordsW p, rest)) : partW (prN f) l (p ++ rest) = (partT l p, rest) := by
 cases p with
 | nil => exact absurd rfl hne
 | cons m q =>
   show (if l ≤ lvlW m.op then prN f (m :: q ++ rest) else _) = (if l ≤ lvlW m.op then wordsW (m :: q) else _, rest)
   by_cases hl : l ≤ lvlW m.op
   · rw [if_pos hl, if_pos hl]; exact h
   · rw [if_neg hl, if_neg hl]
     show (tSg [40] :: ((prN f (m :: q ++ rest)).1 ++ [tSg [41]]), (prN f (m :: q ++ rest)).2) = _
     rw [h]
theorem firstN_app : ∀ {p : List Nd} (rest : List Nd), Ex (.one false) p → firstN (p ++ rest) = firstN p := by
 have key : ∀ (N : Nat) (p rest : List Nd), p.length ≤ N → Ex (.one false) p → firstN (p ++ rest) = firstN p := by
   intro N
   induction N with
   | zero => intro p rest hl h; cases h; simp at hl
   | succ N ih =>
     intro p rest hl h
     cases h with
     | one n body _ hs h7 hb =>
       show (if lvlW n.op = 7 then firstN (body ++ rest) else _) = if lvlW n.op = 7 then firstN body else _
       by_cases h : lvlW n.op = 7
       · rw [if_pos h, if_pos h]
         have hk : n.op = 22 ∨ n.op = 25 ∨ n.op = 26 ∨ n.op = 27 := by
           unfold lvlW at h
           (repeat' split at h) <;> first | omega | (simp at h) | assumption
         have hps := ex_pieces hb
         obtain ⟨ps, h1, h2, h3⟩ := hps
         have h6 : (n.op == 6) = false := by rcases hk with h | h | h | h <;> simp [h]
         cases ps with
         | nil => rcases hk with h | h | h | h <;> simp [ndParts, h] at h1
         | cons a ps =>
           rw [h6] at h3
           have ha := h3.1
           simp only [List.length_cons] at hl
           subst h2
           have hla : a.length ≤ N := by simp at hl; omega
           rw [List.flatten_cons, List.append_assoc, ih a (ps.flatten ++ rest) hla ha, ih a ps.flatten hla ha]
       · rw [if_neg h, if_neg h]
 exact fun {p} rest h => key p.length p rest (Nat.le_refl _) h
theorem listW_items (f : Nat) : ∀ (ps : List (List Nd)) (fst : Bool) (rest : List Nd), (∀ p ∈ ps, p ≠ [] ∧ if (p.headD ndQ).op = 7 then p.tail ≠ [] ∧ ∀ r, prN f (p.tail ++ r) = (wordsW p.tail, r) else ∀ r, prN f (p ++ r) = (wordsW p, r)) →
   listW (prN f) ps.length fst (ps.flatten ++ rest) = (itemsT fst ps, rest)
 | [], fst, rest, _ => rfl
 | p :: ps, fst, rest, h => by
   obtain ⟨hne, hp⟩ := h p (by simp)
   have ih := listW_items f ps false rest fun q hq => h q (by simp [hq])
   cases p with
   | nil => exact absurd rfl hne
   | cons m q =>
     rw [List.flatten_cons, List.append_assoc]
     show (if m.op = 7 then _ else _) = _
     have hp : if m.op = 7 then q ≠ [] ∧ ∀ r, prN f (q ++ r) = (wordsW q, r) else ∀ r, prN f (m :: q ++ r) = (wordsW (m :: q), r) := hp
     by_cases h7 : m.op = 7
     · rw [if_pos h7] at hp ⊢
       have e := partW_some f 0 (ps.flatten ++ rest) hp.1 (hp.2 (ps.flatten ++ rest))
       rw [show partT 0 q = wordsW q from if_pos (Nat.zero_le _)] at e
       show ((if fst then [] else [tSg [44]]) ++ ⟨1, m.s, 0⟩ :: tSg [58] :: ((partW (prN f) 0 (q ++ (ps.flatten ++ rest))).1 ++ (listW (prN f) ps.length false (partW (prN f) 0 (q ++ (ps.flatten ++ rest))).2).1), (listW (prN f) ps.length false (partW (prN f) 0 (q ++ (ps.flatten ++ rest))).2).2) = _
       rw [e, ih]
       simp [itemsT, itemT, h7]
     · rw [if_neg h7] at hp ⊢
       have e := partW_some f 0 (ps.flatten ++ rest) hne (hp (ps.flatten ++ rest))
       rw [show partT 0 (m :: q) = wordsW (m :: q) from if_pos (Nat.zero_le _)] at e
       show ((if fst then [] else [tSg [44]]) ++ ((partW (prN f) 0 (m :: q ++ (ps.flatten ++ rest))).1 ++ (listW (prN f) ps.length false (partW (prN f) 0 (m :: q ++ (ps.flatten ++ rest))).2).1), (listW (prN f) ps.length false (partW (prN f) 0 (m :: q ++ (ps.flatten ++ rest))).2).2) = _
       rw [e, ih]
       simp [itemsT, itemT, h7]
theorem fld_cut {p : List Nd} (h : Ex (.one true) p) : ∃ f v, p = f :: v ∧ f.op = 7 ∧ nameErr f.s.toList = 0 ∧ f = ⟨7, 0, f.s, ⟨#[]⟩⟩ ∧ Ex (.one false) v := by
 cases h with
 | one f body _ hs h7 hb =>
   have h7' : f.op = 7 := by simpa using h7
   have hp : ndParts f = 1 := by simp [ndParts, h7']
   rw [hp, show (f.op == 6) = false from by simp [h7']] at hb
   obtain ⟨ps, h1, h2, h3⟩ := ex_pieces hb
   match ps, h1, h3 with
   | [v], _, h3 =>
     have hs' : f.n = 0 ∧ f.t.toList = [] ∧ nameErr f.s.toList = 0 := by
       unfold shapedT at hs
       rw [if_neg (by omega), if_neg (by omega), if_neg (by omega), if_pos (by omega)] at hs
       simp only [Bool.and_eq_true, beq_iff_eq, List.isEmpty_iff] at hs
       exact ⟨hs.1.1, hs.1.2, hs.2⟩
     refine ⟨f, body, rfl, h7', hs'.2.2, ?_, by rw [h2]; simpa using h3.1⟩
     obtain ⟨o, k, s, t⟩ := f
     dsimp only at h7' hs'
     rw [h7', hs'.1, show t = ⟨#[]⟩ from by rw [← bsOf_toList t, hs'.2.1]; rfl]
theorem ex_cutW {b : Bool} {xs : List Nd} (h : Ex (.one b) xs) : ∃ (n : Nd) (ps : List (List Nd)), xs = n :: ps.flatten ∧ (n.op == 7) = b ∧ shapedT n = true ∧ ps.length = (ndParts n).toNat ∧ ExK (n.op == 6) ⟨#[]⟩ ps := by
 cases h with
 | one n body _ hs h7 hb =>
   obtain ⟨ps, h1, h2, h3⟩ := ex_pieces hb
   exact ⟨n, ps, by rw [h2], h7, hs, h1, h3⟩
theorem ex_nonil {b : Bool} {p : List Nd} (h : Ex (.one b) p) : p ≠ [] := by cases h; simp
theorem parts_lt {n : Nd} {ps : List (List Nd)} {N : Nat} (h : (n :: ps.flatten).length ≤ N + 1) : ∀ p ∈ ps, p.length ≤ N := by
 intro p hp
 obtain ⟨a, b, rfl⟩ := List.append_of_mem hp
 simp at h; omega
theorem prN_step (f : Nat) {n : Nd} {ps : List (List Nd)} (h7 : (n.op == 7) = false) (hs : shapedT n = true) (hl : ps.length = (ndParts n).toNat) (hx : ExK (n.op == 6) ⟨#[]⟩ ps)
   (ih : ∀ p ∈ ps, (Ex (.one false) p → ∀ r, prN f (p ++ r) = (wordsW p, r)) ∧ (Ex (.one true) p → ∀ r, prN f (p.tail ++ r) = (wordsW p.tail, r))) (rest : List Nd) :
   prN (f + 1) (n :: ps.flatten ++ rest) = (nodeT n ps, rest) := by
 have h7' : ¬ n.op = 7 := by simpa using h7
 have hall := exk_all hx
 have pw : ∀ p ∈ ps, n.op ≠ 6 → ∀ l r, partW (prN f) l (p ++ r) = (partT l p, r) := by
   intro p hp h6 l r
   have he : Ex (.one false) p := by have := hall p hp; rwa [show (n.op == 6) = false from by simpa using h6] at this
   exact partW_some f l r (ex_nonil he) ((ih p hp).1 he r)
 show (if n.op = 13 then _ else _) = _
 unfold nodeT
 by_cases o13 : n.op = 13
 · rw [if_pos o13, if_pos o13]
   have hc : ps.length = 3 := by simpa [ndParts, o13] using hl
   match ps, hc with
   | [c, a, b], _ =>
     have p0 := pw c (by simp) (by omega) 0
     have p1 := pw a (by simp) (by omega) 0
     have p2 := pw b (by simp) (by omega) 0
     simp only [List.flatten_cons, List.flatten_nil, List.append_nil, List.append_assoc, List.append_eq, p0, p1, p2, List.getD_cons_zero, List.getD_cons_succ]
 rw [if_neg o13, if_neg o13]
 by_cases o1 : n.op = 12 ∨ n.op = 11 ∨ n.op = 17 ∨ n.op = 18 ∨ n.op = 19
 · rw [if_pos o1, if_pos o1]
   have hc : ps.length = 2 := by rcases o1 with h | h | h | h | h <;> simpa [ndParts, h] using hl
   match ps, hc with
   | [a, b], _ =>
     have p1 := pw a (by simp) (by omega) (lvlW n.op)
     have p2 := pw b (by simp) (by omega) (lvlW n.op + 1)
     simp only [List.flatten_cons, List.flatten_nil, List.append_nil, List.append_assoc, List.append_eq, p1, p2, List.getD_cons_zero, List.getD_cons_succ]
 rw [if_neg o1, if_neg o1]
 by_cases o2 : n.op = 14 ∨ n.op = 15 ∨ n.op = 16 ∨ n.op = 20
 · rw [if_pos o2, if_pos o2]
   have hc : ps.length = 2 := by rcases o2 with h | h | h | h <;> simpa [ndParts, h] using hl
   match ps, hc with
   | [a, b], _ =>
     have p1 := pw a (by simp) (by omega) 4
     have p2 := pw b (by simp) (by omega) 4
     simp only [List.flatten_cons, List.flatten_nil, List.append_nil, List.append_assoc, List.append_eq, p1, p2, List.getD_cons_zero, List.getD_cons_succ]
 rw [if_neg o2, if_neg o2]
 by_cases o3 : n.op = 21 ∨ n.op = 24 ∨ n.op = 23
 · rw [if_pos o3, if_pos o3]
   have hc : ps.length = 1 := by rcases o3 with h | h | h <;> simpa [ndParts, h] using hl
   match ps, hc with
   | [a], _ =>
     have p1 := pw a (by simp) (by omega) 4
     simp only [List.flatten_cons, List.flatten_nil, List.append_nil, List.append_eq, p1, List.getD_cons_zero]
 rw [if_neg o3, if_neg o3]
 by_cases o9 : n.op = 9
 · rw [if_pos o9, if_pos o9]
   have hc : ps.length = 1 := by simpa [ndParts, o9] using hl
   match ps, hc with
   | [a], _ =>
     have p1 := pw a (by simp) (by omega) 6
     simp only [List.flatten_cons, List.flatten_nil, List.append_nil, List.append_eq, p1, List.getD_cons_zero]
 rw [if_neg o9, if_neg o9]
 by_cases o10 : n.op = 10
 · rw [if_pos o10, if_pos o10]
   have hc : ps.length = 1 := by simpa [ndParts, o10] using hl
   match ps, hc with
   | [a], _ =>
     have ha : Ex (.one false) a := by have := hall a (by simp); rwa [show (n.op == 6) = false from by simp [o10]] at this
     have p1 := pw a (by simp) (by omega)
     simp only [List.flatten_cons, List.flatten_nil, List.append_nil, List.append_eq, p1, List.getD_cons_zero, firstN_app rest ha]
 rw [if_neg o10, if_neg o10]
 by_cases o22 : n.op = 22
 · rw [if_pos o22, if_pos o22]
   have hc : ps.length = 1 := by simpa [ndParts, o22] using hl
   match ps, hc with
   | [a], _ =>
     have p1 := pw a (by simp) (by omega) 7
     simp only [List.flatten_cons, List.flatten_nil, List.append_nil, List.append_eq, p1, List.getD_cons_zero]
 rw [if_neg o22, if_neg o22]
 by_cases o25 : n.op = 25 ∨ n.op = 26 ∨ n.op = 27
 · rw [if_pos o25, if_pos o25]
   have hc : ps.length = 2 := by rcases o25 with h | h | h <;> simpa [ndParts, h] using hl
   match ps, hc with
   | [a, b], _ =>
     have p1 := pw a (by simp) (by omega) 7
     have p2 := pw b (by simp) (by omega) 0
     simp only [List.flatten_cons, List.flatten_nil, List.append_nil, List.append_assoc, List.append_eq, p1, p2, List.getD_cons_zero, List.getD_cons_succ]
 rw [if_neg o25, if_neg o25]
 have hitems : ∀ p ∈ ps, p ≠ [] ∧ if (p.headD ndQ).op = 7 then p.tail ≠ [] ∧ ∀ r, prN f (p.tail ++ r) = (wordsW p.tail, r) else ∀ r, prN f (p ++ r) = (wordsW p, r) := by
   intro p hp
   have he := hall p hp
   refine ⟨ex_nonil he, ?_⟩
   cases h6 : (n.op == 6)
   · rw [h6] at he
     obtain ⟨m, qs, rfl, e7, -⟩ := ex_cutW he
     rw [if_neg (by simpa using e7)]
     exact (ih _ hp).1 he
   · rw [h6] at he
     obtain ⟨g, v, rfl, g7, -, -, hv⟩ := fld_cut he
     rw [if_pos (by simpa using g7)]
     exact ⟨ex_nonil hv, (ih _ hp).2 he⟩
 have hli := listW_items f ps true rest hitems
 show atomW (prN f) n (ps.flatten ++ rest) = _
 unfold atomW leafT
 by_cases o5 : n.op = 5
 · have hn : n.n.toNat = ps.length := by rw [hl]; simp [ndParts, o5]
   simp only [o5, hn, hli]; simp
 by_cases o6 : n.op = 6
 · have hn : n.n.toNat = ps.length := by rw [hl]; simp [ndParts, o6]
   simp only [o6, hn, hli]; simp
 have hleaf : n.op = 1 ∨ n.op = 2 ∨ n.op = 3 ∨ n.op = 4 ∨ n.op = 8 := by
   have hnn : ¬ (n.op = 1 ∨ n.op = 2 ∨ n.op = 3 ∨ n.op = 4 ∨ n.op = 8) → False := by
     intro hm
     have hp : ndParts n = -1 := by unfold ndParts; rw [if_neg (by omega), if_neg (by omega), if_neg (by omega), if_neg (by omega), if_neg (by omega)]
     unfold shapedT at hs
     rw [hp, if_neg (by omega), if_neg (by omega), if_neg (by omega), if_neg (by omega), if_neg (by omega)] at hs
     simp at hs
   exact Classical.byContradiction hnn
 have hz : ps = [] := by
   rcases hleaf with h | h | h | h | h <;> (simp [ndParts, h] at hl; exact hl)
 subst hz
 rcases hleaf with h | h | h | h | h <;> simp [h]
theorem prN_ex : ∀ (N : Nat) (xs : List Nd), xs.length ≤ N → Ex (.one false) xs → ∀ f, xs.length ≤ f → ∀ rest, prN f (xs ++ rest) = (wordsW xs, rest) := by
 intro N
 induction N with
 | zero => intro xs hl h; cases h; simp at hl
 | succ N ih =>
   intro xs hl h f hf rest
   obtain ⟨n, ps, rfl, h7, hs, hc, hx⟩ := ex_cutW h
   have step : ∀ g, ps.flatten.length ≤ g → ∀ rest, prN (g + 1) (n :: ps.flatten ++ rest) = (nodeT n ps, rest) := by
     intro g hg rest
     refine prN_step g h7 hs hc hx (fun p hp => ⟨fun he r => ?_, fun he r => ?_⟩) rest
     · exact ih p (parts_lt hl p hp) he g (Nat.le_trans (parts_lt (n := n) (N := ps.flatten.length) (by simp) p hp) hg) r
     · obtain ⟨q, v, rfl, -, -, -, hv⟩ := fld_cut he
       have h1 := parts_lt hl _ hp
       have h2 := parts_lt (n := n) (N := ps.flatten.length) (by simp) _ hp
       simp only [List.length_cons] at h1 h2
       exact ih v (by omega) hv g (by omega) r
   have hw : wordsW (n :: ps.flatten) = nodeT n ps := by
     unfold wordsW
     have := step ps.flatten.length (Nat.le_refl _) []
     rw [List.append_nil] at this
     rw [List.length_cons, this]
   cases f with
   | zero => simp at hf
   | succ f => rw [step f (by simpa using hf) rest, hw]
theorem words_node {n : Nd} {ps : List (List Nd)} (h : Ex (.one false) (n :: ps.flatten)) (hc : ps.length = (ndParts n).toNat) (hx : ExK (n.op == 6) ⟨#[]⟩ ps) : wordsW (n :: ps.flatten) = nodeT n ps := by
 cases h with
 | one _ _ _ hs h7 hb =>
   have := prN_step ps.flatten.length h7 hs hc hx (fun p hp => ⟨fun he r => ?_, fun he r => ?_⟩) []
   · unfold wordsW
     rw [List.append_nil] at this
     rw [List.length_cons, this]
   · exact prN_ex _ p (Nat.le_refl _) he _ (parts_lt (n := n) (N := ps.flatten.length) (by simp) p hp) r
   · obtain ⟨q, v, rfl, -, -, -, hv⟩ := fld_cut he
     have h2 := parts_lt (n := n) (N := ps.flatten.length) (by simp) _ hp
     simp only [List.length_cons] at h2
     exact prN_ex _ v (Nat.le_refl _) hv _ (by omega) r
end Go.Proofs.YtbggbcnfkcadjaaGreatDoor
namespace Go.Proofs.YtbggbcnfkcadjaaGreatDoor
open Go.RowKit
def Ps (a : PT) (ts : List Tk) (e : List Nd) (r : List Tk) : Prop := ∃ f, pa f a ts = .ok e r
theorem pa_up {f g : Nat} {a : PT} {ts : List Tk} {e : List Nd} {r : List Tk} (h : pa f a ts = .ok e r) (hg : f ≤ g) : pa g a ts = .ok e r := by
 rw [← h]; exact pa_more hg (by rw [h]; intro r h; cases h)
theorem Ps.ch {l : Nat} {ts : List Tk} {e e2 : List Nd} {r r2 : List Tk} (h1 : Ps (subT l) ts e r) (h2 : Ps (.lp l e) r e2 r2) : Ps (.ch l) ts e2 r2 := by
 obtain ⟨f, h1⟩ := h1
 obtain ⟨g, h2⟩ := h2
 refine ⟨max f g + 1, ?_⟩
 show (pa (max f g) (subT l) ts).bind _ = _
 rw [pa_up h1 (Nat.le_max_left ..)]
 exact pa_up h2 (Nat.le_max_right ..)
theorem Ps.lp_end {l : Nat} {e : List Nd} {r : List Tk} (h : ∀ t q, r = t :: q → chOp l t = 0) : Ps (.lp l e) r e r := by
 refine ⟨1, ?_⟩
 cases r with
 | nil => rfl
 | cons t q =>
   show (if chOp l t = 0 then _ else _) = _
   rw [if_pos (h t q rfl)]
theorem Ps.lp_go {l : Nat} {e e2 e3 : List Nd} {t : Tk} {q r r3 : List Tk} (h : chOp l t ≠ 0) (h1 : Ps (subT l) q e2 r) (h2 : Ps (.lp l (opX (chOp l t) (e ++ e2))) r e3 r3) : Ps (.lp l e) (t :: q) e3 r3 := by
 obtain ⟨f, h1⟩ := h1
 obtain ⟨g, h2⟩ := h2
 refine ⟨max f g + 1, ?_⟩
 show (if chOp l t = 0 then _ else (pa (max f g) (subT l) q).bind _) = _
 rw [if_neg h, pa_up h1 (Nat.le_max_left ..)]
 exact pa_up h2 (Nat.le_max_right ..)
theorem Ps.rel_end {ts : List Tk} {e : List Nd} {r : List Tk} (h1 : Ps (.ch 4) ts e r) (h : relOp r = 0 ∧ relWd r = 0) : Ps .rel ts e r := by
 obtain ⟨f, h1⟩ := h1
 refine ⟨f + 1, ?_⟩
 show (pa f (.ch 4) ts).bind _ = _
 rw [h1]
 show (if relOp r ≠ 0 then _ else if relWd r ≠ 0 then _ else _) = _
 rw [if_neg (by simp [h.1]), if_neg (by simp [h.2])]
theorem Ps.rel_op {ts : List Tk} {e e2 : List Nd} {t : Tk} {q r : List Tk} (h1 : Ps (.ch 4) ts e (t :: q)) (h : relOp [t] ≠ 0) (h2 : Ps (.ch 4) q e2 r) : Ps .rel ts (opX (relOp [t]) (e ++ e2)) r := by
 obtain ⟨f, h1⟩ := h1
 obtain ⟨g, h2⟩ := h2
 refine ⟨max f g + 1, ?_⟩
 show (pa (max f g) (.ch 4) ts).bind _ = _
 rw [pa_up h1 (Nat.le_max_left ..)]
 show (if relOp (t :: q) ≠ 0 then (pa (max f g) (.ch 4) q).bind _ else _) = _
 rw [if_pos (show relOp (t :: q) ≠ 0 from h), pa_up h2 (Nat.le_max_right ..)]
 rfl
theorem Ps.rel_wd {ts : List Tk} {e : List Nd} {t u : Tk} {r : List Tk} (h1 : Ps (.ch 4) ts e (t :: u :: r)) (h0 : relOp [t] = 0) (h : relWd [t] ≠ 0) (hu : u.kind = if relWd [t] = 23 then 3 else 1) : Ps .rel ts (opS (relWd [t]) u.s e) r := by
 obtain ⟨f, h1⟩ := h1
 refine ⟨f + 1, ?_⟩
 show (pa f (.ch 4) ts).bind _ = _
 rw [h1]
 show (if relOp [t] ≠ 0 then _ else if relWd [t] ≠ 0 then wordR (if relWd [t] = 23 then 3 else 1) (u :: r) _ else _) = _
 rw [if_neg (by simp [h0]), if_pos h]
 show (if (u.kind == _) = true then _ else _) = _
 rw [if_pos (by rw [hu]; simp)]
 rfl
def NoSign (ts : List Tk) : Prop := hdS [33] ts = false ∧ (hdS [45] ts = true → hdK 2 ts.tail = true)
theorem Ps.sign_at {ts : List Tk} {e e2 : List Nd} {r r2 : List Tk} (hn : NoSign ts) (h1 : Ps .atom ts e r) (h2 : Ps (.po e) r e2 r2) : Ps .sign ts e2 r2 := by
 obtain ⟨f, h1⟩ := h1
 obtain ⟨g, h2⟩ := h2
 refine ⟨max f g + 1, ?_⟩
 show (if hdS [33] ts = true then _ else if hdS [45] ts = true ∧ hdK 2 ts.tail = false then _ else (pa (max f g) .atom ts).bind _) = _
 rw [if_neg (by rw [hn.1]; simp), if_neg (by rintro ⟨h3, h4⟩; rw [hn.2 h3] at h4; simp at h4), pa_up h1 (Nat.le_max_left ..)]
 exact pa_up h2 (Nat.le_max_right ..)
theorem Ps.sign_not {t : Tk} {q : List Tk} {e : List Nd} {r : List Tk} (h : isS [33] t = true) (h1 : Ps .sign q e r) : Ps .sign (t :: q) (opX 9 e) r := by
 obtain ⟨f, h1⟩ := h1
 refine ⟨f + 1, ?_⟩
 show (if hdS [33] (t :: q) = true then (pa f .sign q).bind _ else _) = _
 rw [if_pos (show hdS [33] (t :: q) = true from h), h1]; rfl
theorem Ps.sign_neg {t : Tk} {q : List Tk} {e : List Nd} {r : List Tk} (h : isS [45] t = true) (hk : hdK 2 q = false) (h1 : Ps .sign q e r) : Ps .sign (t :: q) (opX 10 e) r := by
 obtain ⟨f, h1⟩ := h1
 refine ⟨f + 1, ?_⟩
 have h0 : isS [33] t = false := by
   unfold isS at h ⊢
   simp only [Bool.and_eq_true, beq_iff_eq] at h
   rw [h.2]; simp
 show (if hdS [33] (t :: q) = true then _ else if hdS [45] (t :: q) = true ∧ hdK 2 q = false then (pa f .sign q).bind _ else _) = _
 rw [if_neg (show ¬ hdS [33] (t :: q) = true by rw [show hdS [33] (t :: q) = isS [33] t from rfl, h0]; simp), if_pos ⟨h, hk⟩, h1]; rfl
theorem Ps.po_end {e : List Nd} {r : List Tk} (h : hdS [46] r = false) : Ps (.po e) r e r := by
 refine ⟨1, ?_⟩
 show (if hdS [46] r = true then _ else _) = _
 rw [if_neg (by rw [h]; simp)]
theorem Ps.po_get {e e2 : List Nd} {t u : Tk} {r r2 : List Tk} (ht : isS [46] t = true) (hu : u.kind = 1) (h : dotOp u.s.toList = 0 ∨ hdS [40] r = false) (h1 : Ps (.po (opS 22 u.s e)) r e2 r2) : Ps (.po e) (t :: u :: r) e2 r2 := by
 obtain ⟨f, h1⟩ := h1
 refine ⟨f + 1, ?_⟩
 show (if isS [46] t = true then (if (u.kind == 1) = true then (if dotOp u.s.toList = 0 ∨ hdS [40] r = false then pa f (.po (opS 22 u.s e)) r else _) else _) else _) = _
 rw [if_pos ht, if_pos (by simp [hu]), if_pos h, h1]
theorem Ps.po_dot {e e2 e3 : List Nd} {t u v c : Tk} {q r r3 : List Tk} (ht : isS [46] t = true) (hu : u.kind = 1) (h : dotOp u.s.toList ≠ 0) (hv : isS [40] v = true) (h1 : Ps .whole q e2 (c :: r)) (hc : isS [41] c = true) (h2 : Ps (.po (opX (dotOp u.s.toList) (e ++ e2))) r e3 r3) : Ps (.po e) (t :: u :: v :: q) e3 r3 := by
 obtain ⟨f, h1⟩ := h1
 obtain ⟨g, h2⟩ := h2
 refine ⟨max f g + 1, ?_⟩
 show (if isS [46] t = true then (if (u.kind == 1) = true then (if dotOp u.s.toList = 0 ∨ isS [40] v = false then _ else (pa (max f g) .whole q).bind _) else _) else _) = _
 rw [if_pos ht, if_pos (by simp [hu]), if_neg (by rintro (h3 | h3); · exact h h3
                                                  · rw [hv] at h3; simp at h3), pa_up h1 (Nat.le_max_left ..)]
 show (if isS [41] c = true then pa (max f g) _ r else _) = _
 rw [if_pos hc]
 exact pa_up h2 (Nat.le_max_right ..)
theorem Ps.whole_ch {ts : List Tk} {e : List Nd} {r : List Tk} (hn : hdN wIf ts = true → hdS wCol ts.tail = true) (h : Ps (.ch 1) ts e r) : Ps .whole ts e r := by
 obtain ⟨f, h⟩ := h
 refine ⟨f + 1, ?_⟩
 show (if hdN wIf ts = true ∧ hdS wCol ts.tail = false then _ else _) = _
 rw [if_neg (by rintro ⟨h1, h2⟩; rw [hn h1] at h2; simp at h2), h]
theorem Ps.whole_if {t u v : Tk} {q q2 q3 r : List Tk} {c a b : List Nd} (ht : isN wIf t = true) (hn : hdS wCol q = false) (h1 : Ps .whole q c (u :: q2)) (hu : isN wThen u = true) (h2 : Ps .whole q2 a (v :: q3)) (hv : isN wElse v = true) (h3 : Ps .whole q3 b r) :
   Ps .whole (t :: q) (opX 13 (c ++ a ++ b)) r := by
 obtain ⟨f, h1⟩ := h1
 obtain ⟨g, h2⟩ := h2
 obtain ⟨k, h3⟩ := h3
 refine ⟨max f (max g k) + 1, ?_⟩
 show (if hdN wIf (t :: q) = true ∧ hdS wCol q = false then (pa (max f (max g k)) .whole q).bind _ else _) = _
 rw [if_pos ⟨ht, hn⟩, pa_up h1 (Nat.le_max_left ..)]
 show (if isN wThen u = true then (pa (max f (max g k)) .whole q2).bind _ else _) = _
 rw [if_pos hu, pa_up h2 (Nat.le_trans (Nat.le_max_left ..) (Nat.le_max_right f (max g k)))]
 show (if isN wElse v = true then (pa (max f (max g k)) .whole q3).bind _ else _) = _
 rw [if_pos hv, pa_up h3 (Nat.le_trans (Nat.le_max_right g k) (Nat.le_max_right f (max g k)))]
 rfl
theorem Ps.leaf {ts : List Tk} {e : List Nd} {r : List Tk} (h : ∀ wh se re, atomR wh se re ts = .ok e r) : Ps .atom ts e r := ⟨1, h _ _ _⟩
theorem Ps.round {t c : Tk} {q r : List Tk} {e : List Nd} (ht : isS [40] t = true) (h : Ps .whole q e (c :: r)) (hc : isS [41] c = true) : Ps .atom (t :: q) e r := by
 obtain ⟨f, h⟩ := h
 refine ⟨f + 1, ?_⟩
 have h5 : t.kind = 5 ∧ t.s.toList = [40] := by simpa [isS] using ht
 show atomR _ _ _ (t :: q) = _
 unfold atomR
 dsimp only
 rw [if_neg (by rw [h5.1]; decide), if_neg (by rw [h5.1]; decide), if_neg (by rw [h5.1]; decide), if_neg (by rw [h5.1]; decide), if_neg (by unfold isS; rw [h5.2]; simp), if_pos ht, h]
 show (if isS [41] c = true then _ else _) = _
 rw [if_pos hc]
theorem Ps.set {t : Tk} {q r : List Tk} {e : List Nd} (ht : isS [91] t = true) (h : Ps (.se []) q e r) : Ps .atom (t :: q) e r := by
 obtain ⟨f, h⟩ := h
 refine ⟨f + 1, ?_⟩
 have h5 : t.kind = 5 ∧ t.s.toList = [91] := by simpa [isS] using ht
 show atomR _ _ _ (t :: q) = _
 unfold atomR
 dsimp only
 rw [if_neg (by rw [h5.1]; decide), if_neg (by rw [h5.1]; decide), if_neg (by rw [h5.1]; decide), if_neg (by rw [h5.1]; decide), if_neg (by unfold isS; rw [h5.2]; simp), if_neg (by unfold isS; rw [h5.2]; simp), if_pos ht, h]
theorem Ps.rec_ {t : Tk} {q r : List Tk} {e : List Nd} (ht : isS [123] t = true) (h : Ps (.re [] ⟨#[]⟩) q e r) : Ps .atom (t :: q) e r := by
 obtain ⟨f, h⟩ := h
 refine ⟨f + 1, ?_⟩
 have h5 : t.kind = 5 ∧ t.s.toList = [123] := by simpa [isS] using ht
 show atomR _ _ _ (t :: q) = _
 unfold atomR
 dsimp only
 rw [if_neg (by rw [h5.1]; decide), if_neg (by rw [h5.1]; decide), if_neg (by rw [h5.1]; decide), if_neg (by rw [h5.1]; decide), if_neg (by unfold isS; rw [h5.2]; simp), if_neg (by unfold isS; rw [h5.2]; simp), if_neg (by unfold isS; rw [h5.2]; simp), if_pos ht, h]
theorem Ps.se_end {ps : List (List Nd)} {t : Tk} {r : List Tk} (ht : isS [93] t = true) : Ps (.se ps) (t :: r) (⟨5, ps.length, ⟨#[]⟩, ⟨#[]⟩⟩ :: ps.flatten) r := by
 refine ⟨1, ?_⟩
 show (if hdS [93] (t :: r) = true then _ else _) = _
 rw [if_pos (show hdS [93] (t :: r) = true from ht)]; rfl
theorem Ps.se_first {ts r r2 : List Tk} {e e2 : List Nd} (hn : hdS [93] ts = false) (h1 : Ps .whole ts e r) (h2 : Ps (.se [e]) r e2 r2) : Ps (.se []) ts e2 r2 := by
 obtain ⟨f, h1⟩ := h1
 obtain ⟨g, h2⟩ := h2
 refine ⟨max f g + 1, ?_⟩
 show (if hdS [93] ts = true then _ else if ([] : List (List Nd)) = [] then (pa (max f g) .whole ts).bind _ else _) = _
 rw [if_neg (by rw [hn]; simp), if_pos rfl, pa_up h1 (Nat.le_max_left ..)]
 exact pa_up h2 (Nat.le_max_right ..)
theorem Ps.se_next {ps : List (List Nd)} {t : Tk} {q r r2 : List Tk} {e e2 : List Nd} (hp : ps ≠ []) (ht : isS [44] t = true) (h1 : Ps .whole q e r) (h2 : Ps (.se (ps ++ [e])) r e2 r2) : Ps (.se ps) (t :: q) e2 r2 := by
 obtain ⟨f, h1⟩ := h1
 obtain ⟨g, h2⟩ := h2
 refine ⟨max f g + 1, ?_⟩
 have h5 : t.kind = 5 ∧ t.s.toList = [44] := by simpa [isS] using ht
 show (if isS [93] t = true then _ else if ps = [] then _ else (if isS [44] t = true then (pa (max f g) .whole q).bind _ else _)) = _
 rw [if_neg (by unfold isS; rw [h5.2]; simp), if_neg hp, if_pos ht, pa_up h1 (Nat.le_max_left ..)]
 exact pa_up h2 (Nat.le_max_right ..)
theorem Ps.re_end {ps : List (List Nd)} {last : ByteArray} {t : Tk} {r : List Tk} (ht : isS [125] t = true) : Ps (.re ps last) (t :: r) (⟨6, ps.length, ⟨#[]⟩, ⟨#[]⟩⟩ :: ps.flatten) r := by
 refine ⟨1, ?_⟩
 show (if hdS [125] (t :: r) = true then _ else _) = _
 rw [if_pos (show hdS [125] (t :: r) = true from ht)]; rfl
theorem Ps.re_first {last : ByteArray} {u c : Tk} {q r r2 : List Tk} {e e2 : List Nd} (hu : u.kind = 1) (hl : sLate last u.s = false) (hc : isS [58] c = true) (h1 : Ps .whole q e r) (h2 : Ps (.re [opS 7 u.s e] u.s) r e2 r2) : Ps (.re [] last) (u :: c :: q) e2 r2 := by
 obtain ⟨f, h1⟩ := h1
 obtain ⟨g, h2⟩ := h2
 refine ⟨max f g + 1, ?_⟩
 show (if isS [125] u = true then _ else if ([] : List (List Nd)) = [] then (if (u.kind == 1 && !sLate last u.s) = true then (if isS [58] c = true then (pa (max f g) .whole q).bind _ else _) else _) else _) = _
 rw [if_neg (by unfold isS; rw [hu]; simp), if_pos rfl, if_pos (by simp [hu, hl]), if_pos hc, pa_up h1 (Nat.le_max_left ..)]
 exact pa_up h2 (Nat.le_max_right ..)
theorem Ps.re_next {ps : List (List Nd)} {last : ByteArray} {t u c : Tk} {q r r2 : List Tk} {e e2 : List Nd} (hp : ps ≠ []) (ht : isS [44] t = true) (hu : u.kind = 1) (hl : sLate last u.s = false) (hc : isS [58] c = true) (h1 : Ps .whole q e r) (h2 : Ps (.re (ps ++ [opS 7 u.s e]) u.s) r e2 r2) : Ps (.re ps last) (t :: u :: c :: q) e2 r2 := by
 obtain ⟨f, h1⟩ := h1
 obtain ⟨g, h2⟩ := h2
 refine ⟨max f g + 1, ?_⟩
 have h5 : t.kind = 5 ∧ t.s.toList = [44] := by simpa [isS] using ht
 show (if isS [125] t = true then _ else if ps = [] then _ else (if isS [44] t = true then (if (u.kind == 1 && !sLate last u.s) = true then (if isS [58] c = true then (pa (max f g) .whole q).bind _ else _) else _) else _)) = _
 rw [if_neg (by unfold isS; rw [h5.2]; simp), if_neg hp, if_pos ht, if_pos (by simp [hu, hl]), if_pos hc, pa_up h1 (Nat.le_max_left ..)]
 exact pa_up h2 (Nat.le_max_right ..)
def Fl (k : Nat) (r : List Tk) : Prop := ∀ t q, r = t :: q → isS wCol t = false ∧ isS [40] t = false ∧ (k ≤ 7 → isS [46] t = false) ∧ (k ≤ 5 → chOp 5 t = 0) ∧ (k ≤ 4 → chOp 4 t = 0) ∧ (k ≤ 3 → relOp [t] = 0 ∧ relWd [t] = 0) ∧ (k ≤ 2 → chOp 2 t = 0) ∧ (k ≤ 1 → chOp 1 t = 0)
theorem Fl.up {k k' : Nat} {r : List Tk} (h : Fl k r) (hk : k ≤ k') : Fl k' r := fun t q e => by
 obtain ⟨h1, h2, h3, h4, h5, h6, h7, h8⟩ := h t q e
 exact ⟨h1, h2, fun g => h3 (by omega), fun g => h4 (by omega), fun g => h5 (by omega), fun g => h6 (by omega), fun g => h7 (by omega), fun g => h8 (by omega)⟩
theorem Fl.nil (k : Nat) : Fl k [] := fun t q e => by cases e
structure Bk (w : List Tk) (e : List Nd) (L : Nat) : Prop where
 ne : w ≠ []
 nif : 1 ≤ L → ∀ r, hdN wIf (w ++ r) = true → hdS wCol (w ++ r).tail = true
 nsg : 7 ≤ L → ∀ r, NoSign (w ++ r)
 c8 : 8 ≤ L → ∀ r, Fl 8 r → Ps .atom (w ++ r) e r
 c7 : 7 ≤ L → ∀ r, Fl 8 r → ∀ e' r', Ps (.po e) r e' r' → Ps .sign (w ++ r) e' r'
 c6 : 6 ≤ L → ∀ r, Fl 7 r → Ps .sign (w ++ r) e r
 c5 : 5 ≤ L → ∀ r, Fl 7 r → ∀ e' r', Ps (.lp 5 e) r e' r' → Ps (.ch 5) (w ++ r) e' r'
 c4 : 4 ≤ L → ∀ r, Fl 5 r → ∀ e' r', Ps (.lp 4 e) r e' r' → Ps (.ch 4) (w ++ r) e' r'
 c3 : 3 ≤ L → ∀ r, Fl 3 r → Ps .rel (w ++ r) e r
 c2 : 2 ≤ L → ∀ r, Fl 3 r → ∀ e' r', Ps (.lp 2 e) r e' r' → Ps (.ch 2) (w ++ r) e' r'
 c1 : 1 ≤ L → ∀ r, Fl 2 r → ∀ e' r', Ps (.lp 1 e) r e' r' → Ps (.ch 1) (w ++ r) e' r'
 c0 : ∀ r, Fl 0 r → Ps .whole (w ++ r) e r
theorem Fl.lp {k l : Nat} {e : List Nd} {r : List Tk} (h : Fl k r) (hl : (l = 5 ∧ k ≤ 5) ∨ (l = 4 ∧ k ≤ 4) ∨ (l = 2 ∧ k ≤ 2) ∨ (l = 1 ∧ k ≤ 1)) : Ps (.lp l e) r e r := Ps.lp_end fun t q hr => by
 obtain ⟨h1, h2, h3, h4, h5, h6, h7, h8⟩ := h t q hr
 rcases hl with ⟨rfl, hk⟩ | ⟨rfl, hk⟩ | ⟨rfl, hk⟩ | ⟨rfl, hk⟩
 · exact h4 hk
 · exact h5 hk
 · exact h7 hk
 · exact h8 hk
theorem Fl.rel {k : Nat} {r : List Tk} (h : Fl k r) (hk : k ≤ 3) : relOp r = 0 ∧ relWd r = 0 := by
 cases r with
 | nil => exact ⟨rfl, rfl⟩
 | cons t q => exact (h t q rfl).2.2.2.2.2.1 hk
theorem Fl.dot {k : Nat} {r : List Tk} (h : Fl k r) (hk : k ≤ 7) : hdS [46] r = false := by
 cases r with
 | nil => rfl
 | cons t q => exact (h t q rfl).2.2.1 hk
theorem Fl.open_ {k : Nat} {r : List Tk} (h : Fl k r) : hdS [40] r = false := by
 cases r with
 | nil => rfl
 | cons t q => exact (h t q rfl).2.1
theorem Fl.col {k : Nat} {r : List Tk} (h : Fl k r) : hdS wCol r = false := by
 cases r with
 | nil => rfl
 | cons t q => exact (h t q rfl).1
theorem Bk.of0 {w : List Tk} {e : List Nd} (ne : w ≠ []) (h : ∀ r, Fl 0 r → Ps .whole (w ++ r) e r) : Bk w e 0 :=
 ⟨ne, fun h => by omega, fun h => by omega, fun h => by omega, fun h => by omega, fun h => by omega, fun h => by omega, fun h => by omega, fun h => by omega, fun h => by omega, fun h => by omega, h⟩
theorem Bk.of1 {w : List Tk} {e : List Nd} (ne : w ≠ []) (hi : ∀ r, hdN wIf (w ++ r) = true → hdS wCol (w ++ r).tail = true) (h : ∀ r, Fl 2 r → ∀ e' r', Ps (.lp 1 e) r e' r' → Ps (.ch 1) (w ++ r) e' r') : Bk w e 1 :=
 { Bk.of0 ne (fun r hr => Ps.whole_ch (hi r) (h r (hr.up (by omega)) e r (hr.lp (by omega)))) with nif := fun _ => hi, nsg := fun h => by omega, c8 := fun h => by omega, c7 := fun h => by omega, c6 := fun h => by omega, c5 := fun h => by omega, c4 := fun h => by omega, c3 := fun h => by omega, c2 := fun h => by omega, c1 := fun _ => h }
theorem Bk.of2 {w : List Tk} {e : List Nd} (ne : w ≠ []) (hi : ∀ r, hdN wIf (w ++ r) = true → hdS wCol (w ++ r).tail = true) (h : ∀ r, Fl 3 r → ∀ e' r', Ps (.lp 2 e) r e' r' → Ps (.ch 2) (w ++ r) e' r') : Bk w e 2 :=
 { Bk.of1 ne hi (fun r hr e' r' hl => Ps.ch (l := 1) (h r (hr.up (by omega)) e r (hr.lp (by omega))) hl) with nif := fun _ => hi, nsg := fun h => by omega, c8 := fun h => by omega, c7 := fun h => by omega, c6 := fun h => by omega, c5 := fun h => by omega, c4 := fun h => by omega, c3 := fun h => by omega, c2 := fun _ => h, c1 := fun _ => (Bk.of1 ne hi (fun r hr e' r' hl => Ps.ch (l := 1) (h r (hr.up (by omega)) e r (hr.lp (by omega))) hl)).c1 (Nat.le_refl _) }
theorem Bk.of3 {w : List Tk} {e : List Nd} (ne : w ≠ []) (hi : ∀ r, hdN wIf (w ++ r) = true → hdS wCol (w ++ r).tail = true) (h : ∀ r, Fl 3 r → Ps .rel (w ++ r) e r) : Bk w e 3 := by
 have b := Bk.of2 ne hi (fun r hr e' r' hl => Ps.ch (l := 2) (h r hr) hl)
 exact { b with nif := fun _ => hi, nsg := fun h => by omega, c8 := fun h => by omega, c7 := fun h => by omega, c6 := fun h => by omega, c5 := fun h => by omega, c4 := fun h => by omega, c3 := fun _ => h, c2 := fun _ => b.c2 (by omega), c1 := fun _ => b.c1 (by omega) }
theorem Bk.of4 {w : List Tk} {e : List Nd} (ne : w ≠ []) (hi : ∀ r, hdN wIf (w ++ r) = true → hdS wCol (w ++ r).tail = true) (h : ∀ r, Fl 5 r → ∀ e' r', Ps (.lp 4 e) r e' r' → Ps (.ch 4) (w ++ r) e' r') : Bk w e 4 := by
 have b := Bk.of3 ne hi (fun r hr => Ps.rel_end (h r (hr.up (by omega)) e r (hr.lp (by omega))) (hr.rel (by omega)))
 exact { b with nif := fun _ => hi, nsg := fun h => by omega, c8 := fun h => by omega, c7 := fun h => by omega, c6 := fun h => by omega, c5 := fun h => by omega, c4 := fun _ => h, c3 := fun _ => b.c3 (by omega), c2 := fun _ => b.c2 (by omega), c1 := fun _ => b.c1 (by omega) }
theorem Bk.of5 {w : List Tk} {e : List Nd} (ne : w ≠ []) (hi : ∀ r, hdN wIf (w ++ r) = true → hdS wCol (w ++ r).tail = true) (h : ∀ r, Fl 7 r → ∀ e' r', Ps (.lp 5 e) r e' r' → Ps (.ch 5) (w ++ r) e' r') : Bk w e 5 := by
 have b := Bk.of4 ne hi (fun r hr e' r' hl => Ps.ch (l := 4) (h r (hr.up (by omega)) e r (hr.lp (by omega))) hl)
 exact { b with nif := fun _ => hi, nsg := fun h => by omega, c8 := fun h => by omega, c7 := fun h => by omega, c6 := fun h => by omega, c5 := fun _ => h, c4 := fun _ => b.c4 (by omega), c3 := fun _ => b.c3 (by omega), c2 := fun _ => b.c2 (by omega), c1 := fun _ => b.c1 (by omega) }
theorem Bk.of6 {w : List Tk} {e : List Nd} (ne : w ≠ []) (hi : ∀ r, hdN wIf (w ++ r) = true → hdS wCol (w ++ r).tail = true) (h : ∀ r, Fl 7 r → Ps .sign (w ++ r) e r) : Bk w e 6 := by
 have b := Bk.of5 ne hi (fun r hr e' r' hl => Ps.ch (l := 5) (h r hr) hl)
 exact { b with nif := fun _ => hi, nsg := fun h => by omega, c8 := fun h => by omega, c7 := fun h => by omega, c6 := fun _ => h, c5 := fun _ => b.c5 (by omega), c4 := fun _ => b.c4 (by omega), c3 := fun _ => b.c3 (by omega), c2 := fun _ => b.c2 (by omega), c1 := fun _ => b.c1 (by omega) }
theorem Bk.of7 {w : List Tk} {e : List Nd} (ne : w ≠ []) (hi : ∀ r, hdN wIf (w ++ r) = true → hdS wCol (w ++ r).tail = true) (hs : ∀ r, NoSign (w ++ r)) (h : ∀ r, Fl 8 r → ∀ e' r', Ps (.po e) r e' r' → Ps .sign (w ++ r) e' r') : Bk w e 7 := by
 have b := Bk.of6 ne hi (fun r hr => h r (hr.up (by omega)) e r (Ps.po_end (hr.dot (by omega))))
 exact { b with nif := fun _ => hi, nsg := fun _ => hs, c8 := fun h => by omega, c7 := fun _ => h, c6 := fun _ => b.c6 (by omega), c5 := fun _ => b.c5 (by omega), c4 := fun _ => b.c4 (by omega), c3 := fun _ => b.c3 (by omega), c2 := fun _ => b.c2 (by omega), c1 := fun _ => b.c1 (by omega) }
theorem Bk.of8 {w : List Tk} {e : List Nd} {L : Nat} (ne : w ≠ []) (hi : ∀ r, hdN wIf (w ++ r) = true → hdS wCol (w ++ r).tail = true) (hs : ∀ r, NoSign (w ++ r)) (h : ∀ r, Fl 8 r → Ps .atom (w ++ r) e r) : Bk w e L := by
 have b := Bk.of7 ne hi hs (fun r hr e' r' hl => Ps.sign_at (hs r) (h r hr) hl)
 exact { b with nif := fun _ => hi, nsg := fun _ => hs, c8 := fun _ => h, c7 := fun _ => b.c7 (by omega), c6 := fun _ => b.c6 (by omega), c5 := fun _ => b.c5 (by omega), c4 := fun _ => b.c4 (by omega), c3 := fun _ => b.c3 (by omega), c2 := fun _ => b.c2 (by omega), c1 := fun _ => b.c1 (by omega) }
theorem Bk.low {w : List Tk} {e : List Nd} {L L' : Nat} (h : Bk w e L) (hl : L' ≤ L) : Bk w e L' :=
 ⟨h.ne, fun g => h.nif (by omega), fun g => h.nsg (by omega), fun g => h.c8 (by omega), fun g => h.c7 (by omega), fun g => h.c6 (by omega), fun g => h.c5 (by omega), fun g => h.c4 (by omega), fun g => h.c3 (by omega), fun g => h.c2 (by omega), fun g => h.c1 (by omega), h.c0⟩
theorem tSg_k (l : List UInt8) : (tSg l).kind = 5 := rfl
theorem tSg_s (l : List UInt8) : (tSg l).s.toList = l := bsOf_list l
theorem tNm_k (l : List UInt8) : (tNm l).kind = 1 := rfl
theorem tNm_s (l : List UInt8) : (tNm l).s.toList = l := bsOf_list l
theorem isS_Sg (l m : List UInt8) : isS m (tSg l) = (l == m) := by unfold isS; rw [tSg_k, tSg_s]; simp
theorem isN_Sg (l m : List UInt8) : isN m (tSg l) = false := by unfold isN; rw [tSg_k]; simp
theorem isN_Nm (l m : List UInt8) : isN m (tNm l) = (l == m) := by unfold isN; rw [tNm_k, tNm_s]; simp
theorem isS_Nm (l m : List UInt8) : isS m (tNm l) = false := by unfold isS; rw [tNm_k]; simp
theorem chOp_Sg (k : Nat) (l : List UInt8) : chOp k (tSg l) = if k = 1 then (if l = [124, 124] then 12 else 0) else if k = 2 then (if l = [38, 38] then 11 else 0) else if k = 4 then (if l = [43] then 17 else if l = [45] then 18 else 0) else (if l = [42] then 19 else 0) := by
 unfold chOp; rw [tSg_k, tSg_s, if_neg (by simp)]
theorem chOp_no {t : Tk} (h : t.kind ≠ 5) (k : Nat) : chOp k t = 0 := by unfold chOp; rw [if_pos h]
theorem relOp_Sg (l : List UInt8) : relOp [tSg l] = if l = [61, 61] then 14 else if l = [60] then 15 else if l = [60, 61] then 16 else 0 := by
 show (if isS [61, 61] (tSg l) = true then (14 : Int) else if isS [60] (tSg l) = true then 15 else if isS [60, 61] (tSg l) = true then 16 else if isN [105, 110] (tSg l) = true then 20 else 0) = _
 simp only [isS_Sg, isN_Sg, beq_iff_eq]; simp
theorem relWd_Sg (l : List UInt8) : relWd [tSg l] = 0 := by
 show (if isN [104, 97, 115] (tSg l) = true then (21 : Int) else if isN [105, 115] (tSg l) = true then 24 else if isN [108, 105, 107, 101] (tSg l) = true then 23 else 0) = 0
 simp only [isN_Sg]; simp
theorem Fl.sg {k : Nat} {l : List UInt8} {q : List Tk} (h : l ≠ wCol ∧ l ≠ [40] ∧ (k ≤ 7 → l ≠ [46]) ∧ (k ≤ 5 → l ≠ [42]) ∧ (k ≤ 4 → l ≠ [43] ∧ l ≠ [45]) ∧ (k ≤ 3 → l ≠ [61, 61] ∧ l ≠ [60] ∧ l ≠ [60, 61]) ∧ (k ≤ 2 → l ≠ [38, 38]) ∧ (k ≤ 1 → l ≠ [124, 124])) : Fl k (tSg l :: q) := fun t q' e => by
 injection e with e _
 subst e
 obtain ⟨h1, h2, h3, h4, h5, h6, h7, h8⟩ := h
 refine ⟨by simp [isS_Sg, h1], by simp [isS_Sg, h2], fun g => by simp [isS_Sg, h3 g], fun g => by simp [chOp_Sg, h4 g], fun g => by simp [chOp_Sg, h5 g], fun g => ⟨by simp [relOp_Sg, h6 g], relWd_Sg l⟩, fun g => by simp [chOp_Sg, h7 g], fun g => by simp [chOp_Sg, h8 g]⟩
theorem Fl.nm {k : Nat} {l : List UInt8} {q : List Tk} (h : k ≤ 3 → l ≠ [105, 110] ∧ l ≠ [104, 97, 115] ∧ l ≠ [105, 115] ∧ l ≠ [108, 105, 107, 101]) : Fl k (tNm l :: q) := fun t q' e => by
 injection e with e _
 subst e
 refine ⟨isS_Nm _ _, isS_Nm _ _, fun g => isS_Nm _ _, fun g => chOp_no (by simp [tNm_k]) _, fun g => chOp_no (by simp [tNm_k]) _, fun g => ⟨?_, ?_⟩, fun g => chOp_no (by simp [tNm_k]) _, fun g => chOp_no (by simp [tNm_k]) _⟩
 · show (if isS [61, 61] (tNm l) = true then (14 : Int) else if isS [60] (tNm l) = true then 15 else if isS [60, 61] (tNm l) = true then 16 else if isN [105, 110] (tNm l) = true then 20 else 0) = 0
   simp [isS_Nm, isN_Nm, h g]
 · show (if isN [104, 97, 115] (tNm l) = true then (21 : Int) else if isN [105, 115] (tNm l) = true then 24 else if isN [108, 105, 107, 101] (tNm l) = true then 23 else 0) = 0
   simp [isN_Nm, h g]
theorem Bk.round {w : List Tk} {e : List Nd} {L : Nat} (h : Bk w e L) : Bk (tSg [40] :: (w ++ [tSg [41]])) e 9 := by
 refine Bk.of8 (by simp) (fun r => ?_) (fun r => ⟨?_, ?_⟩) fun r hr => ?_
 · intro h; exact absurd (show isN wIf (tSg [40]) = true from h) (by rw [isN_Sg]; simp)
 · show isS [33] (tSg [40]) = false
   rw [isS_Sg]; decide
 · intro h; exact absurd (show isS [45] (tSg [40]) = true from h) (by rw [isS_Sg]; decide)
 · have h0 := h.c0 (tSg [41] :: r) (Fl.sg (by decide))
   have := Ps.round (t := tSg [40]) (by rw [isS_Sg]; decide) h0 (by rw [isS_Sg]; decide)
   simpa using this
end Go.Proofs.YtbggbcnfkcadjaaGreatDoor
namespace Go.Proofs.YtbggbcnfkcadjaaGreatDoor
open Go.RowKit
def NumK (xs : List Nd) : Prop := ∀ x ∈ xs, x.op = 2 → -9223372036854775808 ≤ x.n ∧ x.n ≤ 9223372036854775807
theorem uintM_dec (M : Nat) (hM : M ≤ 18446744073709551615) : ∀ (u : Nat) (r : List UInt8), u ≤ M → Lib.parseUintM M 0 (Lib.decDigits u ++ r) = Lib.parseUintM M u r := by
 intro u
 induction u using Nat.strongRecOn with
 | _ u ih =>
   intro r hu
   rw [Lib.decDigits]
   by_cases h : u < 10
   · rw [dif_pos h]
     have hc : (UInt8.ofNat (48 + u)).toNat = 48 + u := by simp; omega
     show Lib.parseUintM M 0 (UInt8.ofNat (48 + u) :: r) = _
     rw [Lib.parseUintM, hc, if_pos (by omega), if_neg (by omega), if_neg (by omega)]
     congr 1
     omega
   · rw [dif_neg h, List.append_assoc, ih (u / 10) (by omega) _ (by omega)]
     have hc : (UInt8.ofNat (48 + u % 10)).toNat = 48 + u % 10 := by simp; omega
     show Lib.parseUintM M (u / 10) (UInt8.ofNat (48 + u % 10) :: r) = _
     rw [Lib.parseUintM, hc, if_pos (by omega), if_neg (by omega), if_neg (by omega)]
     congr 1
     omega
theorem uintB_dec {u : Nat} (hu : u ≤ 18446744073709551615) : Lib.parseUintB 64 (Lib.decDigits u) = .ok u := by
 unfold Lib.parseUintB
 have hne : Lib.decDigits u ≠ [] := by rw [Lib.decDigits]; split <;> simp
 rw [if_neg hne]
 have := uintM_dec (2 ^ 64 - 1) (by decide) u [] (by simpa using hu)
 rw [List.append_nil] at this
 rw [this]; rfl
theorem dec_head (u : Nat) : ∃ c l, Lib.decDigits u = c :: l ∧ 48 ≤ c.toNat ∧ c.toNat ≤ 57 := by
 induction u using Nat.strongRecOn with
 | _ u ih =>
   rw [Lib.decDigits]
   by_cases h : u < 10
   · rw [dif_pos h]
     have hc : (UInt8.ofNat (48 + u)).toNat = 48 + u := by simp; omega
     exact ⟨_, _, rfl, by omega, by omega⟩
   · rw [dif_neg h]
     obtain ⟨c, l, e, h1, h2⟩ := ih (u / 10) (by omega)
     rw [e]; exact ⟨c, l ++ _, rfl, h1, h2⟩
theorem numW_pos {n : Int} (h0 : 0 ≤ n) (h : n ≤ 9223372036854775807) : numW (Lib.itoa n) = some n := by
 have hi : Lib.itoa n = Lib.decDigits n.toNat := by unfold Lib.itoa; rw [if_neg (by omega)]
 obtain ⟨c, l, e, h1, h2⟩ := dec_head n.toNat
 have hu := uintB_dec (u := n.toNat) (by omega)
 rw [e] at hu
 unfold numW Lib.parseIntB
 rw [hi, e]
 dsimp only
 rw [if_neg (by omega), hu]
 dsimp only
 rw [if_neg (by rintro ⟨_, h3⟩; have : (2 : Nat) ^ (64 - 1) = 9223372036854775808 := by decide
                omega), if_neg (by rintro ⟨h3, _⟩; omega), if_neg (by omega)]
 show some (n.toNat : Int) = some n
 rw [Int.toNat_of_nonneg h0]
theorem numW_neg {n : Int} (h0 : n < 0) (h : -9223372036854775808 ≤ n) : numW (45 :: Lib.itoa (-n)) = some n := by
 have hi : Lib.itoa (-n) = Lib.decDigits (-n).toNat := by unfold Lib.itoa; rw [if_neg (by omega)]
 have hu := uintB_dec (u := (-n).toNat) (by omega)
 unfold numW Lib.parseIntB
 rw [hi]
 dsimp only
 rw [if_pos (.inr rfl), hu]
 dsimp only
 rw [if_neg (by rintro ⟨h3, _⟩; exact h3 rfl), if_neg (by rintro ⟨_, h3⟩; have : (2 : Nat) ^ (64 - 1) = 9223372036854775808 := by decide
                                                          omega), if_pos (show (45 : UInt8).toNat = 45 from rfl)]
 show some (-((-n).toNat : Int)) = some n
 rw [Int.toNat_of_nonneg (by omega), Int.neg_neg]
theorem numT_read {n : Int} (h : -9223372036854775808 ≤ n ∧ n ≤ 9223372036854775807) (r : List Tk) (wh se re : List Tk → Pr) : atomR wh se re (numT n ++ r) = .ok [numX n] r := by
 unfold numT
 by_cases h0 : n < 0
 · rw [if_pos h0]
   show atomR wh se re (tSg [45] :: ⟨2, bsOf (Lib.itoa (-n)), 0⟩ :: r) = _
   unfold atomR
   dsimp only
   rw [if_neg (by rw [tSg_k]; decide), if_neg (by rw [tSg_k]; decide), if_neg (by rw [tSg_k]; decide), if_neg (by rw [tSg_k]; decide), if_pos (by rw [isS_Sg]; decide)]
   unfold minusR
   dsimp only
   rw [if_pos rfl]
   unfold numA
   rw [bsOf_list, numW_neg h0 h.1]
 · rw [if_neg h0]
   show atomR wh se re (⟨2, bsOf (Lib.itoa n), 0⟩ :: r) = _
   unfold atomR
   dsimp only
   rw [if_pos rfl]
   unfold numA
   rw [bsOf_list, numW_pos (by omega) h.2]
theorem bs_nil {s : ByteArray} (h : s.toList = []) : s = ⟨#[]⟩ := by rw [← bsOf_toList s, h]; rfl
theorem nd_plain {n : Nd} (hs : shapedT n = true) (h : n.op = 9 ∨ n.op = 10 ∨ n.op = 11 ∨ n.op = 12 ∨ n.op = 13 ∨ n.op = 14 ∨ n.op = 15 ∨ n.op = 16 ∨ n.op = 17 ∨ n.op = 18 ∨ n.op = 19 ∨ n.op = 20 ∨ n.op = 25 ∨ n.op = 26 ∨ n.op = 27) (e : List Nd) : n :: e = opX n.op e := by
 unfold shapedT at hs
 rw [if_neg (by omega), if_neg (by omega), if_neg (by omega), if_neg (by omega), if_neg (by omega)] at hs
 simp only [Bool.and_eq_true, beq_iff_eq, List.isEmpty_iff] at hs
 unfold opX
 obtain ⟨o, k, s, t⟩ := n
 simp only at hs ⊢
 rw [hs.1.1.2, bs_nil hs.1.2, bs_nil hs.2]
theorem nd_str {n : Nd} (hs : shapedT n = true) (h : n.op = 21 ∨ n.op = 22 ∨ n.op = 23 ∨ n.op = 24) (e : List Nd) : n :: e = opS n.op n.s e := by
 unfold shapedT at hs
 have h2 : n.n = 0 ∧ n.t.toList = [] := by
   rw [if_neg (by omega), if_neg (by omega), if_neg (by omega)] at hs
   by_cases h3 : n.op = 23
   · rw [if_neg (by omega), if_pos h3] at hs
     simp only [Bool.and_eq_true, beq_iff_eq, List.isEmpty_iff] at hs
     exact hs.1
   · rw [if_pos (by omega)] at hs
     simp only [Bool.and_eq_true, beq_iff_eq, List.isEmpty_iff] at hs
     exact hs.1
 unfold opS
 obtain ⟨o, k, s, t⟩ := n
 simp only at h2 ⊢
 rw [h2.1, bs_nil h2.2]
theorem nd_list {n : Nd} {m : Nat} (hs : shapedT n = true) (h : n.op = 5 ∨ n.op = 6) (hm : m = (ndParts n).toNat) : n = ⟨n.op, m, ⟨#[]⟩, ⟨#[]⟩⟩ := by
 unfold shapedT at hs
 rw [if_neg (by omega), if_pos h] at hs
 simp only [Bool.and_eq_true, decide_eq_true_eq, List.isEmpty_iff] at hs
 have hp : ndParts n = n.n := by unfold ndParts; rw [if_neg (by omega), if_pos h]
 rw [hp] at hm
 obtain ⟨o, k, s, t⟩ := n
 simp only at hs hm ⊢
 rw [bs_nil hs.1.2, bs_nil hs.2]
 congr 1
 omega
theorem val_one {n : Nd} (h : valErr [n] = 0) : shapedV n = true := by
 cases hv : shapedV n with
 | true => rfl
 | false =>
   have : vGo [n] (2 * [n].length) .one 0 = none := by
     show (if shapedV n = false then none else _) = none
     rw [if_pos hv]
   unfold valErr at h
   rw [if_neg (by simp), this] at h
   simp at h
end Go.Proofs.YtbggbcnfkcadjaaGreatDoor
namespace Go.Proofs.YtbggbcnfkcadjaaGreatDoor
open Go.RowKit
structure BkE (xs : List Nd) : Prop where
 bk : Bk (wordsW xs) xs (lvlE xs)
 col : hdS wCol (wordsW xs) = false
 nse : hdS [93] (wordsW xs) = false
 num : 6 ≤ lvlE xs → firstN xs = false → hdK 2 (wordsW xs) = false
theorem hd_app {w : List Tk} (f : List Tk → Bool) (hf : ∀ t q q', f (t :: q) = f (t :: q')) (hne : w ≠ []) (r : List Tk) : f (w ++ r) = f w := by
 cases w with
 | nil => exact absurd rfl hne
 | cons t q => exact hf t _ _
theorem lvl_le (e : List Nd) : lvlE e ≤ 8 := by unfold lvlE lvlW; (repeat' split) <;> omega
theorem BkE.part {xs : List Nd} (h : BkE xs) {l : Nat} (hl : l ≤ 9) : Bk (partT l xs) xs l ∧ (∀ r, hdS wCol (partT l xs ++ r) = false) ∧ (6 ≤ l → (firstN xs = true → l = 9) → ∀ r, hdK 2 (partT l xs ++ r) = false) := by
 unfold partT
 by_cases hc : l ≤ lvlE xs
 · rw [if_pos hc]
   refine ⟨h.bk.low hc, fun r => ?_, fun h6 hf r => ?_⟩
   · rw [hd_app (hdS wCol) (fun _ _ _ => rfl) h.bk.ne]; exact h.col
   · rw [hd_app (hdK 2) (fun _ _ _ => rfl) h.bk.ne]
     refine h.num (by omega) ?_
     cases hx : firstN xs with
     | false => rfl
     | true => have := hf hx; have := lvl_le xs; omega
 · rw [if_neg hc]
   refine ⟨h.bk.round.low hl, fun r => ?_, fun _ _ r => ?_⟩
   · show isS wCol (tSg [40]) = false
     rw [isS_Sg]; decide
   · rfl
theorem chOp_12 : chOp 1 (tSg [124, 124]) = 12 := by rw [chOp_Sg]; rfl
theorem chOp_11 : chOp 2 (tSg [38, 38]) = 11 := by rw [chOp_Sg]; rfl
theorem chOp_17 : chOp 4 (tSg [43]) = 17 := by rw [chOp_Sg]; rfl
theorem chOp_18 : chOp 4 (tSg [45]) = 18 := by rw [chOp_Sg]; rfl
theorem chOp_19 : chOp 5 (tSg [42]) = 19 := by rw [chOp_Sg]; rfl
theorem nmd_sg {l : List UInt8} (h : (decide (97 ≤ (l.headD 0).toNat) && decide ((l.headD 0).toNat ≤ 122)) = false) : nmdW l = tSg l := by unfold nmdW; rw [if_neg (by rw [h]; simp)]
theorem nmd_nm {l : List UInt8} (h : (decide (97 ≤ (l.headD 0).toNat) && decide ((l.headD 0).toNat ≤ 122)) = true) : nmdW l = tNm l := by unfold nmdW; rw [if_pos h]
theorem relOp_nm (l : List UInt8) : relOp [tNm l] = if l = [105, 110] then 20 else 0 := by
 show (if isS [61, 61] (tNm l) = true then (14 : Int) else if isS [60] (tNm l) = true then 15 else if isS [60, 61] (tNm l) = true then 16 else if isN [105, 110] (tNm l) = true then 20 else 0) = _
 simp [isS_Nm, isN_Nm]
theorem relWd_nm (l : List UInt8) : relWd [tNm l] = if l = [104, 97, 115] then 21 else if l = [105, 115] then 24 else if l = [108, 105, 107, 101] then 23 else 0 := by
 show (if isN [104, 97, 115] (tNm l) = true then (21 : Int) else if isN [105, 115] (tNm l) = true then 24 else if isN [108, 105, 107, 101] (tNm l) = true then 23 else 0) = _
 simp [isN_Nm]
theorem nif_app {w u : List Tk} {e : List Nd} {L : Nat} (h : Bk w e L) (hL : 1 ≤ L) (r : List Tk) : hdN wIf (w ++ u ++ r) = true → hdS wCol (w ++ u ++ r).tail = true := by
 rw [List.append_assoc]; exact h.nif hL (u ++ r)
theorem bk_or {a b : List Nd} (ha : BkE a) (hb : BkE b) : Bk (partT 1 a ++ tSg [124, 124] :: partT 2 b) (opX 12 (a ++ b)) 1 := by
 have pa := (ha.part (l := 1) (by omega)).1
 have pb := (hb.part (l := 2) (by omega)).1
 refine Bk.of1 (by simp) (nif_app pa (by omega)) fun r hr e' r' hl => ?_
 rw [List.append_assoc]
 refine pa.c1 (by omega) (tSg [124, 124] :: partT 2 b ++ r) (Fl.sg (by decide)) e' r' ?_
 refine Ps.lp_go (t := tSg [124, 124]) (by rw [chOp_12]; decide) (pb.c2 (by omega) r (hr.up (by omega)) b r (hr.lp (by omega))) ?_
 rw [chOp_12]; exact hl
theorem bk_and {a b : List Nd} (ha : BkE a) (hb : BkE b) : Bk (partT 2 a ++ tSg [38, 38] :: partT 3 b) (opX 11 (a ++ b)) 2 := by
 have pa := (ha.part (l := 2) (by omega)).1
 have pb := (hb.part (l := 3) (by omega)).1
 refine Bk.of2 (by simp) (nif_app pa (by omega)) fun r hr e' r' hl => ?_
 rw [List.append_assoc]
 refine pa.c2 (by omega) (tSg [38, 38] :: partT 3 b ++ r) (Fl.sg (by decide)) e' r' ?_
 refine Ps.lp_go (t := tSg [38, 38]) (by rw [chOp_11]; decide) (pb.c3 (by omega) r hr) ?_
 rw [chOp_11]; exact hl
theorem bk_sum {a b : List Nd} {l : List UInt8} {o : Int} (hl : l = [43] ∨ l = [45]) (ho : chOp 4 (tSg l) = o) (h0 : o ≠ 0) (ha : BkE a) (hb : BkE b) : Bk (partT 4 a ++ tSg l :: partT 5 b) (opX o (a ++ b)) 4 := by
 have pa := (ha.part (l := 4) (by omega)).1
 have pb := (hb.part (l := 5) (by omega)).1
 refine Bk.of4 (by simp) (nif_app pa (by omega)) fun r hr e' r' hlp => ?_
 rw [List.append_assoc]
 refine pa.c4 (by omega) (tSg l :: partT 5 b ++ r) (Fl.sg (by rcases hl with rfl | rfl <;> decide)) e' r' ?_
 refine Ps.lp_go (t := tSg l) (by rw [ho]; exact h0) (pb.c5 (by omega) r (hr.up (by omega)) b r (hr.lp (by omega))) ?_
 rw [ho]; exact hlp
theorem bk_mul {a b : List Nd} (ha : BkE a) (hb : BkE b) : Bk (partT 5 a ++ tSg [42] :: partT 6 b) (opX 19 (a ++ b)) 5 := by
 have pa := (ha.part (l := 5) (by omega)).1
 have pb := (hb.part (l := 6) (by omega)).1
 refine Bk.of5 (by simp) (nif_app pa (by omega)) fun r hr e' r' hl => ?_
 rw [List.append_assoc]
 refine pa.c5 (by omega) (tSg [42] :: partT 6 b ++ r) (Fl.sg (by decide)) e' r' ?_
 refine Ps.lp_go (t := tSg [42]) (by rw [chOp_19]; decide) (pb.c6 (by omega) r hr) ?_
 rw [chOp_19]; exact hl
theorem bk_rel {a b : List Nd} {t : Tk} {o : Int} (ho : relOp [t] = o) (h0 : o ≠ 0) (hf5 : ∀ q, Fl 4 (t :: q)) (ha : BkE a) (hb : BkE b) : Bk (partT 4 a ++ t :: partT 4 b) (opX o (a ++ b)) 3 := by
 have pa := (ha.part (l := 4) (by omega)).1
 have pb := (hb.part (l := 4) (by omega)).1
 refine Bk.of3 (by simp) (nif_app pa (by omega)) fun r hr => ?_
 rw [List.append_assoc, ← ho]
 exact Ps.rel_op (pa.c4 (by omega) (t :: partT 4 b ++ r) ((hf5 _).up (by omega)) a _ ((hf5 _).lp (by omega))) (by rw [ho]; exact h0) (pb.c4 (by omega) r (hr.up (by omega)) b r (hr.lp (by omega)))
theorem bk_wd {a : List Nd} {t u : Tk} {o : Int} (ho : relWd [t] = o) (h0 : o ≠ 0) (h1 : relOp [t] = 0) (hu : u.kind = if o = 23 then 3 else 1) (hf5 : ∀ q, Fl 4 (t :: q)) (ha : BkE a) : Bk (partT 4 a ++ [t, u]) (opS o u.s a) 3 := by
 have pa := (ha.part (l := 4) (by omega)).1
 refine Bk.of3 (by simp) (nif_app pa (by omega)) fun r _ => ?_
 rw [List.append_assoc, ← ho]
 exact Ps.rel_wd (pa.c4 (by omega) (t :: u :: r) ((hf5 _).up (by omega)) a _ ((hf5 _).lp (by omega))) h1 (by rw [ho]; exact h0) (by rw [ho]; exact hu)
theorem nif_sg {l : List UInt8} {q r : List Tk} : hdN wIf (tSg l :: q ++ r) = true → hdS wCol (tSg l :: q ++ r).tail = true := by
 intro h; exact absurd (show isN wIf (tSg l) = true from h) (by rw [isN_Sg]; simp)
theorem bk_not {a : List Nd} (ha : BkE a) : Bk (tSg [33] :: partT 6 a) (opX 9 a) 6 := by
 have pa := (ha.part (l := 6) (by omega)).1
 exact Bk.of6 (by simp) (fun r => nif_sg) fun r hr => Ps.sign_not (by rw [isS_Sg]; decide) (pa.c6 (by omega) r hr)
theorem bk_neg {a : List Nd} (ha : BkE a) : Bk (tSg [45] :: partT (if firstN a = true then 9 else 6) a) (opX 10 a) 6 := by
 obtain ⟨p1, _, p3⟩ := ha.part (l := if firstN a = true then 9 else 6) (by split <;> omega)
 refine Bk.of6 (by simp) (fun r => nif_sg) fun r hr => Ps.sign_neg (by rw [isS_Sg]; decide) (p3 (by split <;> omega) (fun h => by rw [if_pos h]) r) (p1.c6 (by split <;> omega) r hr)
theorem bk_get {a : List Nd} {u : Tk} (hu : u.kind = 1) (ha : BkE a) : Bk (partT 7 a ++ [tSg [46], u]) (opS 22 u.s a) 7 := by
 have pa := (ha.part (l := 7) (by omega)).1
 refine Bk.of7 (by simp) (nif_app pa (by omega)) (fun r => by rw [List.append_assoc]; exact pa.nsg (by omega) _) fun r hr e' r' hl => ?_
 rw [List.append_assoc]
 exact pa.c7 (by omega) (tSg [46] :: u :: r) (Fl.sg (by decide)) e' r' (Ps.po_get (by rw [isS_Sg]; decide) hu (.inr hr.open_) hl)
theorem bk_dot {a b : List Nd} {l : List UInt8} {o : Int} (ho : dotOp l = o) (h0 : o ≠ 0) (ha : BkE a) (hb : BkE b) : Bk (partT 7 a ++ tSg [46] :: tNm l :: tSg [40] :: (partT 0 b ++ [tSg [41]])) (opX o (a ++ b)) 7 := by
 have pa := (ha.part (l := 7) (by omega)).1
 have pb := (hb.part (l := 0) (by omega)).1
 refine Bk.of7 (by simp) (nif_app pa (by omega)) (fun r => by rw [List.append_assoc]; exact pa.nsg (by omega) _) fun r _ e' r' hl => ?_
 rw [List.append_assoc]
 refine pa.c7 (by omega) _ (Fl.sg (l := [46]) (q := tNm l :: tSg [40] :: (partT 0 b ++ [tSg [41]]) ++ r) (by decide)) e' r' ?_
 have h1 := pb.c0 (tSg [41] :: r) (Fl.sg (by decide))
 have := Ps.po_dot (e := a) (t := tSg [46]) (u := tNm l) (v := tSg [40]) (e3 := e') (r3 := r') (by rw [isS_Sg]; decide) rfl (by rw [tNm_s, ho]; exact h0) (by rw [isS_Sg]; decide) h1 (by rw [isS_Sg]; decide) (by rw [tNm_s, ho]; exact hl)
 simpa using this
theorem bk_if {c a b : List Nd} (hc : BkE c) (ha : BkE a) (hb : BkE b) : Bk (tNm wIf :: (partT 0 c ++ tNm wThen :: (partT 0 a ++ tNm wElse :: partT 0 b))) (opX 13 (c ++ a ++ b)) 0 := by
 obtain ⟨p1, p2, _⟩ := hc.part (l := 0) (by omega)
 have pa := (ha.part (l := 0) (by omega)).1
 have pb := (hb.part (l := 0) (by omega)).1
 refine Bk.of0 (by simp) fun r hr => ?_
 have h1 := p1.c0 (tNm wThen :: (partT 0 a ++ tNm wElse :: (partT 0 b ++ r))) (Fl.nm (by decide))
 have h2 := pa.c0 (tNm wElse :: (partT 0 b ++ r)) (Fl.nm (by decide))
 have h3 := pb.c0 r hr
 have := Ps.whole_if (t := tNm wIf) (by rw [isN_Nm]; decide) (p2 _) h1 (by rw [isN_Nm]; decide) h2 (by rw [isN_Nm]; decide) h3
 simpa using this
theorem se_read : ∀ (ps acc : List (List Nd)) (r : List Tk), (∀ p ∈ ps, BkE p ∧ (p.headD ndQ).op ≠ 7) → Ps (.se acc) (itemsT acc.isEmpty ps ++ tSg [93] :: r) (⟨5, ((acc.length + ps.length : Nat) : Int), ⟨#[]⟩, ⟨#[]⟩⟩ :: (acc.flatten ++ ps.flatten)) r
 | [], acc, r, _ => by
   have := Ps.se_end (ps := acc) (t := tSg [93]) (r := r) (by rw [isS_Sg]; decide)
   simpa [itemsT] using this
 | p :: ps, acc, r, h => by
   obtain ⟨hp, h7⟩ := h p (by simp)
   have ih := se_read ps (acc ++ [p]) r fun q hq => h q (by simp [hq])
   rw [show (acc ++ [p]).isEmpty = false by simp] at ih
   have hit : itemT p = wordsW p := by unfold itemT; rw [if_neg h7]
   have pp := hp.bk
   have hfl : Fl 0 (itemsT false ps ++ tSg [93] :: r) := by
     cases ps with
     | nil => exact Fl.sg (by decide)
     | cons q qs =>
       show Fl 0 ([tSg [44]] ++ (itemT q ++ itemsT false qs) ++ tSg [93] :: r)
       exact Fl.sg (by decide)
   have h0 := pp.c0 _ hfl
   have hlen : ((acc.length + (p :: ps).length : Nat) : Int) = (((acc ++ [p]).length + ps.length : Nat) : Int) := by simp; omega
   have hfla : acc.flatten ++ (p :: ps).flatten = (acc ++ [p]).flatten ++ ps.flatten := by simp
   rw [hlen, hfla]
   cases acc with
   | nil =>
     show Ps (.se []) ([] ++ (itemT p ++ itemsT false ps) ++ tSg [93] :: r) _ r
     rw [hit, List.nil_append, List.append_assoc]
     refine Ps.se_first ?_ h0 ih
     rw [hd_app (hdS [93]) (fun _ _ _ => rfl) pp.ne]
     exact hp.nse
   | cons a bs =>
     show Ps (.se (a :: bs)) ([tSg [44]] ++ (itemT p ++ itemsT false ps) ++ tSg [93] :: r) _ r
     rw [hit]
     have := Ps.se_next (ps := a :: bs) (t := tSg [44]) (by simp) (by rw [isS_Sg]; decide) h0 ih
     simpa using this
end Go.Proofs.YtbggbcnfkcadjaaGreatDoor
namespace Go.Proofs.YtbggbcnfkcadjaaGreatDoor
open Go.RowKit
theorem re_read : ∀ (ps acc : List (List Nd)) (last : ByteArray) (r : List Tk), (∀ p ∈ ps, ∃ f v, p = f :: v ∧ f = ⟨7, 0, f.s, ⟨#[]⟩⟩ ∧ BkE v) → ExK true last ps →
   Ps (.re acc last) (itemsT acc.isEmpty ps ++ tSg [125] :: r) (⟨6, ((acc.length + ps.length : Nat) : Int), ⟨#[]⟩, ⟨#[]⟩⟩ :: (acc.flatten ++ ps.flatten)) r
 | [], acc, last, r, _, _ => by
   have := Ps.re_end (ps := acc) (last := last) (t := tSg [125]) (r := r) (by rw [isS_Sg]; decide)
   simpa [itemsT] using this
 | p :: ps, acc, last, r, h, hx => by
   obtain ⟨f, v, rfl, hf, hv⟩ := h p (by simp)
   have hs : f.s = f.s := rfl
   obtain ⟨_, hlate, hx'⟩ := hx
   have hlate := hlate rfl
   rw [if_pos rfl] at hx'
   have hh : headS (f :: v) = f.s := rfl
   rw [hh] at hlate hx'
   have ih := re_read ps (acc ++ [f :: v]) f.s r (fun q hq => h q (by simp [hq])) hx'
   rw [show (acc ++ [f :: v]).isEmpty = false by simp] at ih
   have h7 : f.op = 7 := by rw [hf]
   have hit : itemT (f :: v) = ⟨1, f.s, 0⟩ :: tSg [58] :: wordsW v := by unfold itemT; rw [if_pos (by simpa using h7)]; rfl
   have hfl : Fl 0 (itemsT false ps ++ tSg [125] :: r) := by
     cases ps with
     | nil => exact Fl.sg (by decide)
     | cons q qs =>
       show Fl 0 ([tSg [44]] ++ (itemT q ++ itemsT false qs) ++ tSg [125] :: r)
       exact Fl.sg (by decide)
   have h0 := hv.bk.c0 _ hfl
   have hop : opS 7 f.s v = f :: v := by unfold opS; rw [← hf]
   have hlen : ((acc.length + ((f :: v) :: ps).length : Nat) : Int) = (((acc ++ [f :: v]).length + ps.length : Nat) : Int) := by simp; omega
   have hfla : acc.flatten ++ ((f :: v) :: ps).flatten = (acc ++ [f :: v]).flatten ++ ps.flatten := by simp
   rw [hlen, hfla]
   cases acc with
   | nil =>
     show Ps (.re [] last) ([] ++ (itemT (f :: v) ++ itemsT false ps) ++ tSg [125] :: r) _ r
     rw [hit]
     have := Ps.re_first (last := last) (u := ⟨1, f.s, 0⟩) (c := tSg [58]) rfl hlate (by rw [isS_Sg]; decide) h0 (by rw [hop]; exact ih)
     simpa using this
   | cons a bs =>
     show Ps (.re (a :: bs) last) ([tSg [44]] ++ (itemT (f :: v) ++ itemsT false ps) ++ tSg [125] :: r) _ r
     rw [hit]
     have := Ps.re_next (ps := a :: bs) (last := last) (t := tSg [44]) (u := ⟨1, f.s, 0⟩) (c := tSg [58]) (by simp) (by rw [isS_Sg]; decide) rfl hlate (by rw [isS_Sg]; decide) h0 (by rw [hop]; exact ih)
     simpa using this
theorem name_nores {s : ByteArray} (h : variableB s.toList = true) (h63 : ∀ l, s.toList ≠ 63 :: l) : reserved s.toList = false ∧ nameErr s.toList = 0 := by
 unfold variableB at h
 cases hs : s.toList with
 | nil => rw [hs] at h; simp [nameErr] at h
 | cons c l =>
   rw [hs] at h
   have hc : ¬ c = 63 := fun e => h63 l (by rw [hs, e])
   simp only [if_neg hc, Bool.and_eq_true, beq_iff_eq, Bool.not_eq_true'] at h
   exact ⟨h.2, h.1⟩
theorem res_words {l : List UInt8} (h : reserved l = false) : l ≠ wIf ∧ l ≠ wTrue ∧ l ≠ wFalse := by
 unfold reserved at h
 simp only [Bool.or_eq_false_iff, beq_eq_false_iff_ne] at h
 obtain ⟨⟨⟨⟨⟨⟨⟨⟨h1, _⟩, _⟩, h4⟩, h5⟩, _⟩, _⟩, _⟩, _⟩ := h
 exact ⟨h1, h4, h5⟩
theorem nosg_kind {t : Tk} {q : List Tk} (h : t.kind ≠ 5) : NoSign (t :: q) := by
 have : ∀ l, isS l t = false := fun l => by unfold isS; simp [h]
 exact ⟨this _, fun hc => absurd (show isS [45] t = true from hc) (by rw [this]; simp)⟩
theorem noif_kind {t : Tk} {q : List Tk} (h : t.kind ≠ 1) : hdN wIf (t :: q) = true → hdS wCol (t :: q).tail = true := fun hc => by
 have hc : isN wIf t = true := hc
 unfold isN at hc; simp [h] at hc
theorem isS_kind {t : Tk} (h : t.kind ≠ 5) (l : List UInt8) : isS l t = false := by unfold isS; simp [h]
theorem bk_leaf {n : Nd} (hs : shapedT n = true) (ho : n.op = 1 ∨ n.op = 2 ∨ n.op = 3 ∨ n.op = 4 ∨ n.op = 8) (hk : n.op = 2 → -9223372036854775808 ≤ n.n ∧ n.n ≤ 9223372036854775807) :
   Bk (leafT n) [n] 8 ∧ hdS wCol (leafT n) = false ∧ hdS [93] (leafT n) = false ∧ (firstN [n] = false → hdK 2 (leafT n) = false) := by
 have hv : n.op ≠ 8 → shapedV n = true := fun h8 => by
   unfold shapedT at hs
   rw [if_pos (by omega)] at hs
   exact val_one (by simpa using hs)
 rcases ho with h | h | h | h | h
 · -- a truth
   have hv := hv (by omega)
   unfold shapedV at hv
   rw [if_pos h] at hv
   simp only [Bool.and_eq_true, Bool.or_eq_true, beq_iff_eq, List.isEmpty_iff] at hv
   have hl : leafT n = [tNm (if n.n = 1 then wTrue else wFalse)] := by unfold leafT; rw [if_pos h]
   rw [hl]
   refine ⟨Bk.of8 (by simp) (fun r hc => absurd (show isN wIf (tNm _) = true from hc) ?_) (fun r => nosg_kind (by simp [tNm_k])) fun r hr => Ps.leaf fun wh se re => ?_, isS_Nm _ _, isS_Nm _ _, fun _ => rfl⟩
   · rw [isN_Nm]; split <;> decide
   · show atomR wh se re (tNm (if n.n = 1 then wTrue else wFalse) :: r) = _
     unfold atomR
     dsimp only
     rw [if_neg (by rw [tNm_k]; decide), if_neg (by rw [tNm_k]; decide), if_neg (by rw [tNm_k]; decide), if_pos (tNm_k _), if_neg (by rw [hr.col]; simp), tNm_s]
     obtain ⟨o, k, s, t⟩ := n
     simp only at h hv ⊢
     rw [h, bs_nil hv.1.2, bs_nil hv.2]
     rcases hv.1.1 with rfl | rfl
     · rw [if_neg (by decide), if_pos (by decide)]
     · rw [if_pos rfl, if_pos rfl]
 · -- a number
   have hv := hv (by omega)
   unfold shapedV at hv
   rw [if_neg (by omega), if_pos h] at hv
   simp only [Bool.and_eq_true, List.isEmpty_iff] at hv
   have hl : leafT n = numT n.n := by unfold leafT; rw [if_neg (by omega), if_pos h]
   have hn : [n] = [numX n.n] := by
     obtain ⟨o, k, s, t⟩ := n
     simp only at h hv ⊢
     rw [h, bs_nil hv.1, bs_nil hv.2]; rfl
   rw [hl]
   have hne : numT n.n ≠ [] := by unfold numT; split <;> simp
   have hns : ∀ r, NoSign (numT n.n ++ r) := by
     intro r
     unfold numT
     split
     · refine ⟨?_, fun _ => rfl⟩
       show isS [33] (tSg [45]) = false
       rw [isS_Sg]; decide
     · exact nosg_kind (by simp)
   refine ⟨Bk.of8 hne (fun r => ?_) hns fun r _ => ?_, ?_, ?_, fun hf => ?_⟩
   · unfold numT
     split
     · exact nif_sg
     · exact noif_kind (by simp)
   · rw [hn]; exact Ps.leaf fun wh se re => numT_read (hk h) r wh se re
   · unfold numT; split
     · show isS wCol (tSg [45]) = false
       rw [isS_Sg]; decide
     · exact isS_kind (by simp) _
   · unfold numT; split
     · show isS [93] (tSg [45]) = false
       rw [isS_Sg]; decide
     · exact isS_kind (by simp) _
   · have : ¬ (0 ≤ n.n) := by
       have hf' : (if lvlW n.op = 7 then firstN [] else n.op == 2 && decide (0 ≤ n.n)) = false := hf
       rw [h, if_neg (by decide)] at hf'
       simpa using hf'
     unfold numT; rw [if_pos (by omega)]; rfl
 · -- a text
   have hv := hv (by omega)
   unfold shapedV at hv
   rw [if_neg (by omega), if_neg (by omega), if_pos h] at hv
   simp only [Bool.and_eq_true, beq_iff_eq, List.isEmpty_iff] at hv
   have hl : leafT n = [⟨3, n.s, 0⟩] := by unfold leafT; rw [if_neg (by omega), if_neg (by omega), if_pos h]
   rw [hl]
   refine ⟨Bk.of8 (by simp) (fun r => noif_kind (by simp)) (fun r => nosg_kind (by simp)) fun r _ => Ps.leaf fun wh se re => ?_, isS_kind (by simp) _, isS_kind (by simp) _, fun _ => rfl⟩
   show atomR wh se re (⟨3, n.s, 0⟩ :: r) = _
   unfold atomR
   dsimp only
   rw [if_neg (by decide), if_pos rfl]
   obtain ⟨o, k, s, t⟩ := n
   simp only at h hv ⊢
   rw [h, hv.1.1, bs_nil hv.1.2]
 · -- a uid
   have hv := hv (by omega)
   unfold shapedV at hv
   rw [if_neg (by omega), if_neg (by omega), if_neg (by omega), if_pos h] at hv
   simp only [Bool.and_eq_true, beq_iff_eq] at hv
   have hl : leafT n = [⟨1, n.s, 0⟩, tSg wCol, ⟨3, n.t, 0⟩] := by unfold leafT; rw [if_neg (by omega), if_neg (by omega), if_neg (by omega), if_pos h]
   rw [hl]
   refine ⟨Bk.of8 (by simp) (fun r _ => ?_) (fun r => nosg_kind (by simp)) fun r _ => Ps.leaf fun wh se re => ?_, isS_kind (by simp) _, isS_kind (by simp) _, fun _ => rfl⟩
   · show isS wCol (tSg wCol) = true
     rw [isS_Sg]; decide
   · show atomR wh se re (⟨1, n.s, 0⟩ :: tSg wCol :: ⟨3, n.t, 0⟩ :: r) = _
     unfold atomR
     dsimp only
     rw [if_neg (by decide), if_neg (by decide), if_neg (by decide), if_pos rfl, if_pos (show hdS wCol (tSg wCol :: ⟨3, n.t, 0⟩ :: r) = true from (by rw [isS_Sg]; decide : isS wCol (tSg wCol) = true))]
     show (if ((3 : Int) == 3) = true then Pr.ok [⟨4, 0, n.s, n.t⟩] r else Pr.bad 1 (⟨3, n.t, 0⟩ :: r)) = _
     rw [if_pos (by decide)]
     obtain ⟨o, k, s, t⟩ := n
     simp only at h hv ⊢
     rw [h, hv.1.1]
 · -- a name, or a slot
   have hv : n.n = 0 ∧ n.t.toList = [] ∧ variableB n.s.toList = true := by
     unfold shapedT at hs
     rw [if_neg (by omega), if_neg (by omega), if_pos h] at hs
     simp only [Bool.and_eq_true, beq_iff_eq, List.isEmpty_iff] at hs
     exact ⟨hs.1.1, hs.1.2, hs.2⟩
   have hn : n = ⟨8, 0, n.s, ⟨#[]⟩⟩ := by
     obtain ⟨o, k, s, t⟩ := n
     simp only at h hv ⊢
     rw [h, hv.1, bs_nil hv.2.1]
   have hl : leafT n = varT n.s := by unfold leafT; rw [if_neg (by omega), if_neg (by omega), if_neg (by omega), if_neg (by omega)]
   rw [hl]
   by_cases hq : ∃ l, n.s.toList = 63 :: l
   · obtain ⟨l, hq⟩ := hq
     have hvt : varT n.s = [⟨4, bsOf l, 0⟩] := by unfold varT; rw [hq]; rfl
     rw [hvt]
     refine ⟨Bk.of8 (by simp) (fun r => noif_kind (by simp)) (fun r => nosg_kind (by simp)) fun r _ => Ps.leaf fun wh se re => ?_, isS_kind (by simp) _, isS_kind (by simp) _, fun _ => rfl⟩
     show atomR wh se re (⟨4, bsOf l, 0⟩ :: r) = _
     unfold atomR
     dsimp only
     rw [if_neg (by decide), if_neg (by decide), if_pos rfl, bsOf_list, hn, ← hq, bsOf_toList]
   · have h63 : ∀ l, n.s.toList ≠ 63 :: l := fun l e => hq ⟨l, e⟩
     obtain ⟨hres, _⟩ := name_nores hv.2.2 h63
     obtain ⟨w1, w2, w3⟩ := res_words hres
     have hvt : varT n.s = [⟨1, n.s, 0⟩] := by
       unfold varT
       split
       · rename_i l e; exact absurd e (h63 l)
       · rfl
     rw [hvt]
     refine ⟨Bk.of8 (by simp) (fun r hc => ?_) (fun r => nosg_kind (by simp)) fun r hr => Ps.leaf fun wh se re => ?_, isS_kind (by simp) _, isS_kind (by simp) _, fun _ => rfl⟩
     · have hc : isN wIf ⟨1, n.s, 0⟩ = true := hc
       unfold isN at hc
       simp only [Bool.and_eq_true, beq_iff_eq] at hc
       exact absurd hc.2 w1
     · show atomR wh se re (⟨1, n.s, 0⟩ :: r) = _
       unfold atomR
       dsimp only
       rw [if_neg (by decide), if_neg (by decide), if_neg (by decide), if_pos rfl, if_neg (by rw [hr.col]; simp), if_neg w2, if_neg w3, if_neg (by rw [hres]; simp), hn]
theorem hd_ne {w u : List Tk} {f : List Tk → Bool} (hf : ∀ t q q', f (t :: q) = f (t :: q')) (hne : w ≠ []) (h : f w = false) : f (w ++ u) = false := by rw [hd_app f hf hne]; exact h
theorem BkE.heads {xs : List Nd} (h : BkE xs) (l : Nat) (u : List Tk) : hdS wCol (partT l xs ++ u) = false ∧ hdS [93] (partT l xs ++ u) = false := by
 unfold partT
 by_cases hc : l ≤ lvlE xs
 · rw [if_pos hc]
   exact ⟨hd_ne (f := hdS wCol) (fun _ _ _ => rfl) h.bk.ne h.col, hd_ne (f := hdS [93]) (fun _ _ _ => rfl) h.bk.ne h.nse⟩
 · rw [if_neg hc]
   refine ⟨?_, ?_⟩
   · show isS wCol (tSg [40]) = false
     rw [isS_Sg]; decide
   · show isS [93] (tSg [40]) = false
     rw [isS_Sg]; decide
theorem sg_heads {l : List UInt8} {q : List Tk} (h1 : l ≠ wCol) (h2 : l ≠ [93]) : hdS wCol (tSg l :: q) = false ∧ hdS [93] (tSg l :: q) = false ∧ hdK 2 (tSg l :: q) = false := by
 refine ⟨?_, ?_, rfl⟩
 · show isS wCol (tSg l) = false
   rw [isS_Sg]; simpa using h1
 · show isS [93] (tSg l) = false
   rw [isS_Sg]; simpa using h2
theorem back_bk : ∀ (N : Nat) (xs : List Nd), xs.length ≤ N → Ex (.one false) xs → NumK xs → BkE xs := by
 intro N
 induction N with
 | zero => intro xs hl h; cases h; simp at hl
 | succ N ih =>
   intro xs hl h hk
   have h' := h
   obtain ⟨n, ps, rfl, h7, hs, hc, hx⟩ := ex_cutW h
   have hw := words_node h' hc hx
   have h7' : ¬ n.op = 7 := by simpa using h7
   have hall := exk_all hx
   have hkp : ∀ p ∈ ps, NumK p := fun p hp x hxp h2 => hk x (by simp only [List.mem_cons, List.mem_flatten]; exact .inr ⟨p, hp, hxp⟩) h2
   have hp : n.op ≠ 6 → ∀ p ∈ ps, BkE p := fun h6 p hp => by
     refine ih p (parts_lt hl p hp) ?_ (hkp p hp)
     have := hall p hp; rwa [show (n.op == 6) = false from by simpa using h6] at this
   have hlv : lvlE (n :: ps.flatten) = lvlW n.op := rfl
   have hfn : firstN (n :: ps.flatten) = if lvlW n.op = 7 then firstN ps.flatten else n.op == 2 && decide (0 ≤ n.n) := rfl
   have hops : n.op = 13 ∨ (n.op = 12 ∨ n.op = 11 ∨ n.op = 17 ∨ n.op = 18 ∨ n.op = 19) ∨ (n.op = 14 ∨ n.op = 15 ∨ n.op = 16 ∨ n.op = 20) ∨ (n.op = 21 ∨ n.op = 24 ∨ n.op = 23) ∨ n.op = 9 ∨ n.op = 10 ∨ n.op = 22 ∨ (n.op = 25 ∨ n.op = 26 ∨ n.op = 27) ∨ n.op = 5 ∨ n.op = 6 ∨ (n.op = 1 ∨ n.op = 2 ∨ n.op = 3 ∨ n.op = 4 ∨ n.op = 8) := by
     apply Classical.byContradiction
     intro hno
     have hm : ndParts n = -1 := by unfold ndParts; rw [if_neg (by omega), if_neg (by omega), if_neg (by omega), if_neg (by omega), if_neg (by omega)]
     unfold shapedT at hs
     rw [hm, if_neg (by omega), if_neg (by omega), if_neg (by omega), if_neg (by omega), if_neg (by omega)] at hs
     simp at hs
   rcases hops with o | o | o | o | o | o | o | o | o | o | o
   · -- if
     have hl3 : ps.length = 3 := by simpa [ndParts, o] using hc
     have hp := hp (by omega)
     match ps, hl3 with
     | [c, a, b], _ =>
       have hn : nodeT n [c, a, b] = tNm wIf :: (partT 0 c ++ tNm wThen :: (partT 0 a ++ tNm wElse :: partT 0 b)) := by unfold nodeT; rw [if_pos o]; rfl
       have hB := bk_if (hp c (by simp)) (hp a (by simp)) (hp b (by simp))
       have he : n :: [c, a, b].flatten = opX 13 (c ++ a ++ b) := by rw [nd_plain hs (by omega), o]; simp
       refine ⟨?_, ?_, ?_, fun h6 => ?_⟩
       · rw [hw, hn, hlv, o, he]; exact hB
       · rw [hw, hn]; exact isS_Nm _ _
       · rw [hw, hn]; exact isS_Nm _ _
       · rw [hlv, o] at h6; exact absurd h6 (by decide)
   · -- two parts, a sign between
     have hl2 : ps.length = 2 := by rcases o with h | h | h | h | h <;> simpa [ndParts, h] using hc
     have hp := hp (by omega)
     match ps, hl2 with
     | [a, b], _ =>
       have ha := hp a (by simp)
       have hb := hp b (by simp)
       have hn : nodeT n [a, b] = partT (lvlW n.op) a ++ tSg (btwW n.op) :: partT (lvlW n.op + 1) b := by unfold nodeT; rw [if_neg (by omega), if_pos o]; rfl
       have he : n :: [a, b].flatten = opX n.op (a ++ b) := by rw [nd_plain hs (by omega)]; simp
       have hh := ha.heads (lvlW n.op) (tSg (btwW n.op) :: partT (lvlW n.op + 1) b)
       refine ⟨?_, by rw [hw, hn]; exact hh.1, by rw [hw, hn]; exact hh.2, fun h6 => ?_⟩
       · rw [hw, hn, hlv, he]
         rcases o with o | o | o | o | o <;> rw [o]
         · exact bk_or ha hb
         · exact bk_and ha hb
         · exact bk_sum (.inl rfl) chOp_17 (by decide) ha hb
         · exact bk_sum (.inr rfl) chOp_18 (by decide) ha hb
         · exact bk_mul ha hb
       · rw [hlv] at h6
         rcases o with o | o | o | o | o <;> rw [o] at h6 <;> exact absurd h6 (by decide)
   · have hl2 : ps.length = 2 := by rcases o with h | h | h | h <;> simpa [ndParts, h] using hc
     have hp := hp (by omega)
     match ps, hl2 with
     | [a, b], _ =>
       have ha := hp a (by simp)
       have hb := hp b (by simp)
       have hn : nodeT n [a, b] = partT 4 a ++ nmdW (btwW n.op) :: partT 4 b := by unfold nodeT; rw [if_neg (by omega), if_neg (by omega), if_pos o]; rfl
       have he : n :: [a, b].flatten = opX n.op (a ++ b) := by rw [nd_plain hs (by omega)]; simp
       have hh := ha.heads 4 (nmdW (btwW n.op) :: partT 4 b)
       refine ⟨?_, by rw [hw, hn]; exact hh.1, by rw [hw, hn]; exact hh.2, fun h6 => ?_⟩
       · rw [hw, hn, hlv, he]
         rcases o with o | o | o | o <;> rw [o]
         · exact bk_rel (t := tSg [61, 61]) (by rw [relOp_Sg]; rfl) (by decide) (fun q => Fl.sg (by decide)) ha hb
         · exact bk_rel (t := tSg [60]) (by rw [relOp_Sg]; rfl) (by decide) (fun q => Fl.sg (by decide)) ha hb
         · exact bk_rel (t := tSg [60, 61]) (by rw [relOp_Sg]; rfl) (by decide) (fun q => Fl.sg (by decide)) ha hb
         · exact bk_rel (t := tNm [105, 110]) (by rw [relOp_nm]; rfl) (by decide) (fun q => Fl.nm (by decide)) ha hb
       · rw [hlv] at h6
         rcases o with o | o | o | o <;> rw [o] at h6 <;> exact absurd h6 (by decide)
   · have hl1 : ps.length = 1 := by rcases o with h | h | h <;> simpa [ndParts, h] using hc
     have hp := hp (by omega)
     match ps, hl1 with
     | [a], _ =>
       have ha := hp a (by simp)
       have hn : nodeT n [a] = partT 4 a ++ [nmdW (btwW n.op), ⟨if n.op = 23 then 3 else 1, n.s, 0⟩] := by unfold nodeT; rw [if_neg (by omega), if_neg (by omega), if_neg (by omega), if_pos o]; rfl
       have he : n :: [a].flatten = opS n.op n.s a := by rw [nd_str hs (by omega)]; simp
       have hh := ha.heads 4 [nmdW (btwW n.op), ⟨if n.op = 23 then 3 else 1, n.s, 0⟩]
       refine ⟨?_, by rw [hw, hn]; exact hh.1, by rw [hw, hn]; exact hh.2, fun h6 => ?_⟩
       · rw [hw, hn, hlv, he]
         rcases o with o | o | o <;> rw [o]
         · exact bk_wd (t := tNm [104, 97, 115]) (u := ⟨1, n.s, 0⟩) (by rw [relWd_nm]; rfl) (by decide) (by rw [relOp_nm]; rfl) rfl (fun q => Fl.nm (by decide)) ha
         · exact bk_wd (t := tNm [105, 115]) (u := ⟨1, n.s, 0⟩) (by rw [relWd_nm]; rfl) (by decide) (by rw [relOp_nm]; rfl) rfl (fun q => Fl.nm (by decide)) ha
         · exact bk_wd (t := tNm [108, 105, 107, 101]) (u := ⟨3, n.s, 0⟩) (by rw [relWd_nm]; rfl) (by decide) (by rw [relOp_nm]; rfl) rfl (fun q => Fl.nm (by decide)) ha
       · rw [hlv] at h6
         rcases o with o | o | o <;> rw [o] at h6 <;> exact absurd h6 (by decide)
   · have hl1 : ps.length = 1 := by simpa [ndParts, o] using hc
     have hp := hp (by omega)
     match ps, hl1 with
     | [a], _ =>
       have ha := hp a (by simp)
       have hn : nodeT n [a] = tSg [33] :: partT 6 a := by unfold nodeT; rw [if_neg (by omega), if_neg (by omega), if_neg (by omega), if_neg (by omega), if_pos o]; rfl
       have he : n :: [a].flatten = opX 9 a := by rw [nd_plain hs (by omega), o]; simp
       obtain ⟨g1, g2, g3⟩ := sg_heads (l := [33]) (q := partT 6 a) (by decide) (by decide)
       refine ⟨?_, by rw [hw, hn]; exact g1, by rw [hw, hn]; exact g2, fun _ _ => by rw [hw, hn]; exact g3⟩
       rw [hw, hn, hlv, he, o]; exact bk_not ha
   · have hl1 : ps.length = 1 := by simpa [ndParts, o] using hc
     have hp := hp (by omega)
     match ps, hl1 with
     | [a], _ =>
       have ha := hp a (by simp)
       have hn : nodeT n [a] = tSg [45] :: partT (if firstN a = true then 9 else 6) a := by unfold nodeT; rw [if_neg (by omega), if_neg (by omega), if_neg (by omega), if_neg (by omega), if_neg (by omega), if_pos o]; rfl
       have he : n :: [a].flatten = opX 10 a := by rw [nd_plain hs (by omega), o]; simp
       obtain ⟨g1, g2, g3⟩ := sg_heads (l := [45]) (q := partT (if firstN a = true then 9 else 6) a) (by decide) (by decide)
       refine ⟨?_, by rw [hw, hn]; exact g1, by rw [hw, hn]; exact g2, fun _ _ => by rw [hw, hn]; exact g3⟩
       rw [hw, hn, hlv, he, o]; exact bk_neg ha
   · have hl1 : ps.length = 1 := by simpa [ndParts, o] using hc
     have hp := hp (by omega)
     match ps, hl1 with
     | [a], _ =>
       have ha := hp a (by simp)
       have hn : nodeT n [a] = partT 7 a ++ [tSg [46], ⟨1, n.s, 0⟩] := by unfold nodeT; rw [if_neg (by omega), if_neg (by omega), if_neg (by omega), if_neg (by omega), if_neg (by omega), if_neg (by omega), if_pos o]; rfl
       have he : n :: [a].flatten = opS 22 n.s a := by rw [nd_str hs (by omega), o]; simp
       have hh := ha.heads 7 [tSg [46], ⟨1, n.s, 0⟩]
       refine ⟨?_, by rw [hw, hn]; exact hh.1, by rw [hw, hn]; exact hh.2, fun _ hf => ?_⟩
       · rw [hw, hn, hlv, he, o]; exact bk_get (u := ⟨1, n.s, 0⟩) rfl ha
       · rw [hfn, o, if_pos (by decide)] at hf
         rw [List.flatten_cons, List.flatten_nil, List.append_nil] at hf
         rw [hw, hn]; exact (ha.part (l := 7) (by omega)).2.2 (by omega) (fun hc => by rw [hf] at hc; simp at hc) _
   · have hl2 : ps.length = 2 := by rcases o with h | h | h <;> simpa [ndParts, h] using hc
     have hp := hp (by omega)
     match ps, hl2 with
     | [a, b], _ =>
       have ha := hp a (by simp)
       have hb := hp b (by simp)
       have hn : nodeT n [a, b] = partT 7 a ++ tSg [46] :: nmdW (btwW n.op) :: tSg [40] :: (partT 0 b ++ [tSg [41]]) := by unfold nodeT; rw [if_neg (by omega), if_neg (by omega), if_neg (by omega), if_neg (by omega), if_neg (by omega), if_neg (by omega), if_neg (by omega), if_pos o]; rfl
       have he : n :: [a, b].flatten = opX n.op (a ++ b) := by rw [nd_plain hs (by omega)]; simp
       have hh := ha.heads 7 (tSg [46] :: nmdW (btwW n.op) :: tSg [40] :: (partT 0 b ++ [tSg [41]]))
       refine ⟨?_, by rw [hw, hn]; exact hh.1, by rw [hw, hn]; exact hh.2, fun _ hf => ?_⟩
       · rw [hw, hn, hlv, he]
         rcases o with o | o | o <;> rw [o]
         · exact bk_dot (l := [99, 111, 110, 116, 97, 105, 110, 115]) rfl (by decide) ha hb
         · exact bk_dot (l := [99, 111, 110, 116, 97, 105, 110, 115, 65, 108, 108]) rfl (by decide) ha hb
         · exact bk_dot (l := [99, 111, 110, 116, 97, 105, 110, 115, 65, 110, 121]) rfl (by decide) ha hb
       · have hf' : firstN a = false := by
           rw [hfn, if_pos (by rcases o with o | o | o <;> rw [o] <;> decide)] at hf
           have ea : Ex (.one false) a := by have := hall a (by simp); rwa [show (n.op == 6) = false from by simp; omega] at this
           rw [List.flatten_cons, firstN_app _ ea] at hf
           exact hf
         rw [hw, hn]; exact (ha.part (l := 7) (by omega)).2.2 (by omega) (fun hc => by rw [hf'] at hc; simp at hc) _
   · -- a set
     have hp := hp (by omega)
     have hn : nodeT n ps = tSg [91] :: (itemsT true ps ++ [tSg [93]]) := by unfold nodeT; rw [if_neg (by omega), if_neg (by omega), if_neg (by omega), if_neg (by omega), if_neg (by omega), if_neg (by omega), if_neg (by omega), if_neg (by omega), if_pos o]
     have he := nd_list hs (.inl o) hc
     obtain ⟨g1, g2, g3⟩ := sg_heads (l := [91]) (q := itemsT true ps ++ [tSg [93]]) (by decide) (by decide)
     refine ⟨?_, by rw [hw, hn]; exact g1, by rw [hw, hn]; exact g2, fun _ _ => by rw [hw, hn]; exact g3⟩
     rw [hw, hn, hlv, o]
     refine Bk.of8 (by simp) (fun r => nif_sg) (fun r => ⟨?_, ?_⟩) fun r _ => ?_
     · show isS [33] (tSg [91]) = false
       rw [isS_Sg]; decide
     · intro hc; exact absurd (show isS [45] (tSg [91]) = true from hc) (by rw [isS_Sg]; decide)
     · have h5 := se_read ps [] r fun p hpp => ⟨hp p hpp, by
         have := hall p hpp
         rw [show (n.op == 6) = false from by simp [o]] at this
         obtain ⟨m, qs, rfl, e7, -⟩ := ex_cutW this
         simpa using e7⟩
       have h6 := Ps.set (t := tSg [91]) (by rw [isS_Sg]; decide) h5
       rw [he, o]
       simpa using h6
   · -- a record
     have hn : nodeT n ps = tSg [123] :: (itemsT true ps ++ [tSg [125]]) := by unfold nodeT; rw [if_neg (by omega), if_neg (by omega), if_neg (by omega), if_neg (by omega), if_neg (by omega), if_neg (by omega), if_neg (by omega), if_neg (by omega), if_neg (by omega), if_pos o]
     have he := nd_list hs (.inr o) hc
     obtain ⟨g1, g2, g3⟩ := sg_heads (l := [123]) (q := itemsT true ps ++ [tSg [125]]) (by decide) (by decide)
     refine ⟨?_, by rw [hw, hn]; exact g1, by rw [hw, hn]; exact g2, fun _ _ => by rw [hw, hn]; exact g3⟩
     rw [hw, hn, hlv, o]
     rw [show (n.op == 6) = true from by simp [o]] at hx hall
     refine Bk.of8 (by simp) (fun r => nif_sg) (fun r => ⟨?_, ?_⟩) fun r _ => ?_
     · show isS [33] (tSg [123]) = false
       rw [isS_Sg]; decide
     · intro hc; exact absurd (show isS [45] (tSg [123]) = true from hc) (by rw [isS_Sg]; decide)
     · have h5 := re_read ps [] ⟨#[]⟩ r (fun p hpp => by
         obtain ⟨g, v, rfl, g7, -, gn, hv⟩ := fld_cut (hall p hpp)
         have := parts_lt hl _ hpp
         refine ⟨g, v, rfl, gn, ih v (by simp at this; omega) hv fun x hxv h2 => hkp _ hpp x (by simp [hxv]) h2⟩) hx
       have h6 := Ps.rec_ (t := tSg [123]) (by rw [isS_Sg]; decide) h5
       rw [he, o]
       simpa using h6
   · -- a leaf
     have hz : ps = [] := by rcases o with h | h | h | h | h <;> (simp [ndParts, h] at hc; exact hc)
     subst hz
     have hn : nodeT n [] = leafT n := by unfold nodeT; rw [if_neg (by omega), if_neg (by omega), if_neg (by omega), if_neg (by omega), if_neg (by omega), if_neg (by omega), if_neg (by omega), if_neg (by omega), if_neg (by omega), if_neg (by omega)]
     obtain ⟨b1, b2, b3, b4⟩ := bk_leaf hs o (hk n (by simp))
     have hl8 : lvlW n.op = 8 := by rcases o with o | o | o | o | o <;> rw [o] <;> decide
     refine ⟨?_, by rw [hw, hn]; exact b2, by rw [hw, hn]; exact b3, fun _ hf => by rw [hw, hn]; exact b4 hf⟩
     rw [hw, hn, hlv, hl8]; exact b1
end Go.Proofs.YtbggbcnfkcadjaaGreatDoor
namespace Go.Proofs.YtbggbcnfkcadjaaGreatDoor
open Go.RowKit Go.Sort
structure NsM where
 A : Option Addr
 c : Nat
 e : List Nd
def NsM.cells (x : NsM) : List Value := [.slice x.A x.e.length x.c]
structure NsGood (w : World) (B : Nat) (x : NsM) : Prop where
 sl : NdSl w B x.A x.e
 le : x.e.length ≤ x.c
 max : x.c ≤ 9223372036854775807
theorem NsGood.later {w w' : World} {x : NsM} (h : NsGood w w.heap.size x) (hb : Below w.heap.size w w') : NsGood w' w'.heap.size x := ⟨(h.sl.below hb).more hb.size, h.le, h.max⟩
end Go.Proofs.YtbggbcnfkcadjaaGreatDoor
namespace Go.Proofs.YtbggbcnfkcadjaaGreatDoor
open Go.RowKit Go.Sort
theorem own_form_new {w : World} {base : Nat} {e : TypeId} {v : Value} {n : Nat} {xs : List Nd} (h : w.ownsRow base e 4 v n (flat xs)) :
   ∃ A c, v = .slice A n c ∧ n ≤ c ∧ c ≤ 9223372036854775807 ∧ NdSl w w.heap.size A xs ∧ ∀ b o, A = some ⟨b, o, none⟩ → base ≤ b := by
 obtain ⟨A, c, hv, hc, hm, hs⟩ := own_form (xs := xs) (ys := []) (by rw [show flat ([] : List Nd) = [] from rfl, List.append_nil]; exact h)
 rw [List.append_nil] at hs
 refine ⟨A, c, hv, hc, hm, hs, fun b o hA => ?_⟩
 subst hA
 rcases h.2 with ⟨h1, _⟩ | ⟨g, cap, cur, h1, hb, _⟩
 · rw [hv] at h1; cases h1
 · rw [hv] at h1; injection h1 with h1; injection h1 with h1; injection h1 with h1; omega
theorem own_lt {w : World} {base : Nat} {e : TypeId} {k : Nat} {v : Value} {n : Nat} {xs : List Value} (h : w.ownsRow base e k v n xs) {b : Nat} (hb : v.ownBlock = some b) : base ≤ b ∧ b < w.heap.size := by
 rcases h.2 with ⟨h1, _⟩ | ⟨g, cap, cur, h1, hbg, hg, _⟩
 · rw [h1] at hb; cases hb
 · rw [h1] at hb
   injection hb with hb
   have h2 : g = b := hb
   subst h2
   exact ⟨hbg, (Array.getElem?_eq_some_iff.1 hg).1⟩
end Go.Proofs.YtbggbcnfkcadjaaGreatDoor
namespace Go.Proofs.YtbggbcnfkcadjaaGreatDoor
open Go.RowKit
structure TkS (t : Tk) : Prop where
 sz : t.s.size ≤ 60
 nm : t.kind = 1 → ∃ c r, t.s.toList = c :: r ∧ letB c = true
 sg : t.kind = 5 → ∃ c r, t.s.toList = c :: r ∧ letB c = false
def PT.acc : PT → Nat
 | .lp _ e => e.length | .po e => e.length | .se ps => ps.flatten.length + 1 | .re ps _ => ps.flatten.length + 1 | _ => 0
end Go.Proofs.YtbggbcnfkcadjaaGreatDoor
