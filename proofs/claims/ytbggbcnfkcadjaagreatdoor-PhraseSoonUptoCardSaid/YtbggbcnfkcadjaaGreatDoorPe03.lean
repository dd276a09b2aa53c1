/-
  ARGUMENTS that are lists of any kind of values, opened: what the row's reading says of memory. Facts of the seat's program that each row asks.
  PLAIN WORDS: the words of a line, on lists of bytes. No program in sight. PLAIN LAWS: reading a line, word by word; line behind line. PLAIN WORDS: what a text is between quotes. PLAIN WORDS: the spelling of words.
  PLAIN WORDS: tokens in memory.
  ARGUMENTS that are lists of words, opened.
-/
import Derived.Test.YtbggbcnfkcadjaaGreatDoorPe01
import Derived.Test.YtbggbcnfkcadjaaGreatDoorProg
import Derived.Deep.Slices
import Derived.Deep.Fields
import Derived.ChangeSame
import Derived.SizedLaws
import Derived.ProofKit
import Derived.Lib.Bytealg
import Derived.Lib.Join
namespace Go.Proofs.YtbggbcnfkcadjaaGreatDoor
set_option maxRecDepth 100000
open Go.ChangeShapes Go.WideShapes Go.RowKit Go.Deep
section
variable {H : Type} {enc : TypeId × Value → H} {W : World}
theorem open_gen {α : Type} {en : α → List Value} {k : Nat} {data : α → DataW H} {Good : α → Prop} {t e : TypeId} (ht : Tryz.prog.underlying t = some (.slice e)) (ce : Tryz.prog.cellsOf e = k) (he : EncOk en k)
   (hel : ∀ n cs y, DataW.trod enc Tryz.prog W 0 (fun _ => true) true n e cs = some y → ∃ x, cs = en x ∧ y.1 = data x ∧ Good x) {fuel : Nat} {cs : List Value} {y : DataW H × List MemPlace}
   (hf : DataW.trod enc Tryz.prog W 0 (fun _ => true) true fuel t cs = some y) :
   ∃ (A : Option Addr) (xs : List α) (c : Nat), cs = [.slice A xs.length c] ∧ xs.length ≤ c ∧ c ≤ 9223372036854775807 ∧ SlG en k W W.heap.size A xs ∧ (∀ x ∈ xs, Good x) ∧ (xs = [] ∨ ∃ sp, y.1 = .slice (xs.map data) sp) := by
 rcases open_slice ht hf with ⟨hcs, _⟩ | ⟨a, len', cap', m, n, D, Pl, hcs, _, hl, hm, hmm, hx, hi⟩
 · exact ⟨none, [], 0, hcs, by simp, by omega, SlG.nil _ _ _, by simp, .inl rfl⟩
 · simp only [if_true] at hmm
   subst hmm
   have hel' : ∀ i, i < m → ∃ x : α, D i = data x ∧ Good x ∧ ∀ j u, (en x)[j]? = some u → W.cell? (a.add (i * k + j)) = some u := by
     intro i him
     obtain ⟨cs', hc, ht'⟩ := hi i him
     rw [ce] at hc
     obtain ⟨x, rfl, hd, hg⟩ := hel _ _ _ ht'
     refine ⟨x, hd, hg, fun j u hu => ?_⟩
     obtain ⟨_, _, hat⟩ := World.cells?_some hc
     have hj : j < k := by have := (List.getElem?_eq_some_iff.1 hu).1; rwa [he.len] at this
     have := hat j hj
     rw [add_add] at this
     rw [this, hu]
   have hxs : ∀ r, r ≤ m → ∃ xs : List α, xs.length = r ∧ (List.range r).map D = xs.map data ∧ (∀ x ∈ xs, Good x) ∧ ∀ i x, xs[i]? = some x → ∀ j u, (en x)[j]? = some u → W.cell? (a.add (i * k + j)) = some u := by
     intro r
     induction r with
     | zero => intro _; exact ⟨[], rfl, rfl, by simp, fun i x hx => by simp at hx⟩
     | succ r ih =>
       intro hk
       obtain ⟨xs, h1, h2, h3, h4⟩ := ih (by omega)
       obtain ⟨x, hd, hg, hc⟩ := hel' r (by omega)
       refine ⟨xs ++ [x], by simp [h1], by rw [List.range_succ, List.map_append, List.map_append, h2]; simp [hd], fun z hz => ?_, fun i y hy => ?_⟩
       · rcases List.mem_append.1 hz with hz | hz
         · exact h3 z hz
         · rw [List.mem_singleton] at hz; subst hz; exact hg
       · rcases Nat.lt_or_ge i xs.length with hlt | hge
         · rw [List.getElem?_append_left hlt] at hy; exact h4 i y hy
         · have : i = xs.length := by
             have := (List.getElem?_eq_some_iff.1 hy).1
             simp at this; omega
           subst this
           simp at hy
           subst hy
           rw [h1]; exact hc
   obtain ⟨xs, h1, h2, h3, h4⟩ := hxs len' hl
   subst h1
   refine ⟨some a, xs, m, hcs, hl, by unfold maxLen at hm; omega, fun hne => ?_, h3, .inr ⟨_, by rw [hx, ← h2]⟩⟩
   have h0 : 0 < xs.length := List.length_pos_iff.2 hne
   have hen : 0 < (en xs[0]).length := by rw [he.len]; exact he.pos
   have hc0 := h4 0 xs[0] (List.getElem?_eq_getElem h0) 0 _ (List.getElem?_eq_getElem hen)
   have hsp : a.spot = none := by
     cases hs : a.spot with
     | none => rfl
     | some q =>
       simp [World.cell?, Addr.add, hs] at hc0
       split at hc0 <;> simp at hc0
   obtain ⟨b, o, sp⟩ := a
   simp only at hsp
   subst hsp
   simp only [add_none] at h4 hc0
   refine ⟨b, o, rfl, World.block_lt_of_cell? W _ hc0, fun i x hx j u hu => ?_⟩
   rw [Nat.add_assoc]
   exact h4 i x hx j u hu
theorem gen_weights {P : Program} {e : TypeId} {d : DataW H} {n : Nat} : ∀ {l : List (DataW H)}, d ∈ l → n ∈ d.weights P e → n ∈ DataW.weightsAll P e l
 | [], h, _ => by cases h
 | x :: l, h, hn => by
   simp only [DataW.weightsAll, List.mem_append]
   rcases List.mem_cons.1 h with rfl | h
   · exact .inl hn
   · exact .inr (gen_weights h hn)
theorem slice_weights {t e : TypeId} (ht : Tryz.prog.underlying t = some (.slice e)) {xs sp : List (DataW H)} {d : DataW H} {n : Nat} (hx : d ∈ xs) (hn : n ∈ d.weights Tryz.prog e) :
   n ∈ (DataW.slice xs sp).weights Tryz.prog t := by
 simp only [DataW.weights, ht, List.mem_cons, List.mem_append]
 exact .inr (.inl (gen_weights hx hn))
end
end Go.Proofs.YtbggbcnfkcadjaaGreatDoor
namespace Go.Proofs.YtbggbcnfkcadjaaGreatDoor
open Go.ChangeShapes Go.WideShapes Go.ChangeAt Go.RowKit Go.WideMaps
theorem Tryz.own : ownKnob Tryz.prog.godebug = none := by kernel_rfl
theorem Tryz.laidOut : laidOutB Tryz.prog = true := by kernel_rfl
end Go.Proofs.YtbggbcnfkcadjaaGreatDoor
namespace Go.Proofs.YtbggbcnfkcadjaaGreatDoor
open Go.RowKit
def digB (c : UInt8) : Bool := digitI (c.toNat : Int)
def letB (c : UInt8) : Bool := letterI (c.toNat : Int)
inductive Wd where
 | bad (k : Int)
 | ok (kind : Int) (t : List UInt8) (n : Nat)
def numP (l : List UInt8) : Wd :=
 if 19 < ((l.takeWhile digB).dropWhile (· == 48)).length then .bad 4
 else .ok 2 (if ((l.takeWhile digB).dropWhile (· == 48)) = [] then [48] else (l.takeWhile digB).dropWhile (· == 48)) (l.takeWhile digB).length
def namedP (kind : Int) (l : List UInt8) (x : Nat) : Wd :=
 if nameErr (l.takeWhile nameB) = 0 then .ok kind (l.takeWhile nameB) ((l.takeWhile nameB).length + x) else .bad (nameErr (l.takeWhile nameB))
def quoP : List UInt8 → List UInt8 → Nat → Wd
 | [], _, _ => .bad 1
 | c :: r, acc, n =>
   if c = 34 then (if 60 < acc.length then .bad 4 else .ok 3 acc (n + 1))
   else if c = 92 then
     match r with
     | [] => .bad 1
     | d :: r' => if d = 34 ∨ d = 92 then quoP r' (acc ++ [d]) (n + 2) else .bad 1
   else if plainB c then quoP r (acc ++ [c]) (n + 1) else .bad 1
def sign1 (a : UInt8) : Bool := a == 40 || a == 41 || a == 91 || a == 93 || a == 123 || a == 125 || a == 44 || a == 46 || a == 33 || a == 43 || a == 45 || a == 42
def signP : List UInt8 → List UInt8
 | [] => []
 | a :: r =>
   if sign1 a then [a]
   else if a = 58 then (if r.head? = some 58 then [58, 58] else [58])
   else if a = 60 then (if r.head? = some 61 then [60, 61] else [60])
   else if (a = 61 ∨ a = 38 ∨ a = 124) ∧ r.head? = some a then [a, a]
   else []
def wordP (l : List UInt8) : Wd :=
 match l with
 | [] => .bad 1
 | c :: r =>
   if digB c then numP l
   else if letB c then namedP 1 l 0
   else if c = 34 then quoP r [] 1
   else if c = 63 then namedP 4 r 1
   else if signP l = [] then .bad 1 else .ok 5 (signP l) (signP l).length
structure Tk where
 kind : Int
 s : ByteArray
 at_ : Int
def bsOf (l : List UInt8) : ByteArray := ⟨l.toArray⟩
def lineP : Nat → List UInt8 → Nat → List Tk → List Tk × Nat × Int
 | 0, _, _, acc => (acc, 0, 0)
 | f + 1, l, i, acc =>
   match l with
   | [] => (acc, 0, 0)
   | c :: r =>
     if c = 32 then lineP f r (i + 1) acc
     else match wordP l with
       | .bad k => ([], i, k)
       | .ok kind t n => if acc.length = 300 then ([], i, 4) else lineP f (l.drop n) (i + n) (acc ++ [⟨kind, bsOf t, i⟩])
def readP (s : ByteArray) : List Tk × Nat × Int := if 900 < s.size then ([], 0, 4) else lineP s.size s.toList 0 []
theorem quoP_n : ∀ {l : List UInt8} {acc : List UInt8} {n : Nat} {kind : Int} {t : List UInt8} {m : Nat}, quoP l acc n = .ok kind t m → n < m ∧ m ≤ n + l.length ∧ kind = 3
 | [], acc, n, kind, t, m, h => by simp [quoP] at h
 | [c], acc, n, kind, t, m, h => by
   rw [quoP] at h
   split at h
   · split at h
     · cases h
     · injection h with h1 h2 h3; subst h1 h2 h3; simp
   · split at h
     · cases h
     · split at h
       · rw [quoP] at h; cases h
       · cases h
 | c :: d :: r, acc, n, kind, t, m, h => by
   rw [quoP] at h
   split at h
   · split at h
     · cases h
     · injection h with h1 h2 h3; subst h1 h2 h3; simp
   · split at h
     · split at h
       · have := quoP_n h; simp only [List.length_cons]; omega
       · cases h
     · split at h
       · have := quoP_n h; simp only [List.length_cons] at this ⊢; omega
       · cases h
end Go.Proofs.YtbggbcnfkcadjaaGreatDoor
namespace Go.Proofs.YtbggbcnfkcadjaaGreatDoor
open Go.RowKit
theorem letB_name {c : UInt8} (h : letB c = true) : nameB c = true := by unfold letB at h; simp [nameB, h]
theorem takeWhile_pos {p : UInt8 → Bool} {c : UInt8} {r : List UInt8} (h : p c = true) : 1 ≤ ((c :: r).takeWhile p).length := by
 rw [List.takeWhile_cons_of_pos h, List.length_cons]; omega
theorem takeWhile_len (p : UInt8 → Bool) (l : List UInt8) : (l.takeWhile p).length ≤ l.length := (List.takeWhile_prefix p).length_le
theorem signP_cons (a : UInt8) (r : List UInt8) : signP (a :: r) = if sign1 a then [a] else if a = 58 then (if r.head? = some 58 then [58, 58] else [58]) else if a = 60 then (if r.head? = some 61 then [60, 61] else [60]) else if (a = 61 ∨ a = 38 ∨ a = 124) ∧ r.head? = some a then [a, a] else [] := rfl
theorem head_some {r : List UInt8} {b : UInt8} (h : r.head? = some b) : 1 ≤ r.length := by
 cases r with
 | nil => simp at h
 | cons => simp
theorem signP_len (l : List UInt8) : (signP l).length ≤ l.length := by
 cases l with
 | nil => simp [signP]
 | cons a r =>
   rw [signP_cons, List.length_cons]
   split
   · simp
   · split
     · split
       · rename_i h; have := head_some h; simp; omega
       · simp
     · split
       · split
         · rename_i h; have := head_some h; simp; omega
         · simp
       · split
         · rename_i h; have := head_some h.2; simp; omega
         · simp
theorem quoP_cons (c : UInt8) (r acc : List UInt8) (n : Nat) : quoP (c :: r) acc n = if c = 34 then (if 60 < acc.length then .bad 4 else .ok 3 acc (n + 1)) else if c = 92 then (match r with | [] => .bad 1 | d :: r' => if d = 34 ∨ d = 92 then quoP r' (acc ++ [d]) (n + 2) else .bad 1) else if plainB c then quoP r (acc ++ [c]) (n + 1) else .bad 1 := by
 cases r with
 | nil => conv => lhs; unfold quoP
 | cons d r => conv => lhs; unfold quoP
theorem wordP_n {l : List UInt8} {kind : Int} {t : List UInt8} {n : Nat} (h : wordP l = .ok kind t n) : 1 ≤ n ∧ n ≤ l.length := by
 cases l with
 | nil => simp [wordP] at h
 | cons c r =>
   rw [wordP] at h
   split at h
   · rename_i hd
     unfold numP at h
     split at h
     · cases h
     · injection h with h1 h2 h3
       subst h3
       exact ⟨takeWhile_pos hd, takeWhile_len _ _⟩
   · split at h
     · rename_i hl
       unfold namedP at h
       split at h
       · injection h with h1 h2 h3
         subst h3
         exact ⟨takeWhile_pos (letB_name hl), takeWhile_len _ _⟩
       · cases h
     · split at h
       · have := quoP_n h
         simp only [List.length_cons]; omega
       · split at h
         · unfold namedP at h
           split at h
           · injection h with h1 h2 h3
             subst h3
             have := takeWhile_len nameB r
             simp only [List.length_cons]; omega
           · cases h
         · split at h
           · cases h
           · rename_i hs
             injection h with h1 h2 h3
             subst h3
             exact ⟨List.length_pos_iff.2 hs, signP_len _⟩
def lineR (l : List UInt8) (i : Nat) (acc : List Tk) : List Tk × Nat × Int := lineP l.length l i acc
theorem lineP_more : ∀ (f : Nat) (l : List UInt8) (i : Nat) (acc : List Tk), l.length ≤ f → lineP f l i acc = lineP l.length l i acc := by
 intro f
 induction f using Nat.strongRecOn with
 | _ f ih =>
   intro l i acc hl
   cases f with
   | zero => rw [Nat.le_zero.1 hl]
   | succ f =>
     cases l with
     | nil => simp [lineP]
     | cons c r =>
       simp only [List.length_cons] at hl ⊢
       rw [lineP, lineP]
       split
       · exact ih f (by omega) r _ _ (by omega)
       · split
         · rfl
         · rename_i kind t n hw
           have hn := wordP_n hw
           split
           · rfl
           · have hd : ((c :: r).drop n).length ≤ r.length := by rw [List.length_drop, List.length_cons]; omega
             rw [ih f (by omega) _ _ _ (by omega), ih r.length (by omega) _ _ _ hd]
theorem lineR_nil (i : Nat) (acc : List Tk) : lineR [] i acc = (acc, 0, 0) := rfl
theorem lineR_blank (r : List UInt8) (i : Nat) (acc : List Tk) : lineR (32 :: r) i acc = lineR r (i + 1) acc := by
 unfold lineR; rw [List.length_cons, lineP, if_pos rfl]
theorem lineR_bad {c : UInt8} {r : List UInt8} {k : Int} (hc : c ≠ 32) (h : wordP (c :: r) = .bad k) (i : Nat) (acc : List Tk) : lineR (c :: r) i acc = ([], i, k) := by
 unfold lineR; rw [List.length_cons, lineP, if_neg hc, h]
theorem lineR_ok {c : UInt8} {r : List UInt8} {kind : Int} {t : List UInt8} {n : Nat} (hc : c ≠ 32) (h : wordP (c :: r) = .ok kind t n) (i : Nat) (acc : List Tk) :
   lineR (c :: r) i acc = if acc.length = 300 then ([], i, 4) else lineR ((c :: r).drop n) (i + n) (acc ++ [⟨kind, bsOf t, i⟩]) := by
 unfold lineR
 rw [List.length_cons, lineP, if_neg hc, h]
 have hn := wordP_n h
 simp only
 split
 · rfl
 · exact lineP_more _ _ _ _ (by rw [List.length_drop, List.length_cons]; omega)
theorem readP_R (s : ByteArray) : readP s = if 900 < s.size then ([], 0, 4) else lineR s.toList 0 [] := by
 unfold readP lineR; rw [toList_len]
theorem quoP_ne0 : ∀ {l : List UInt8} {acc : List UInt8} {n : Nat}, quoP l acc n ≠ .bad 0
 | [], acc, n => by simp [quoP]
 | [c], acc, n => by
   rw [quoP]
   split
   · split <;> simp
   · split
     · simp
     · split
       · simp [quoP]
       · simp
 | c :: d :: r, acc, n => by
   rw [quoP]
   split
   · split <;> simp
   · split
     · split
       · exact quoP_ne0
       · simp
     · split
       · exact quoP_ne0
       · simp
theorem wordP_ne0 {l : List UInt8} : wordP l ≠ .bad 0 := by
 cases l with
 | nil => simp [wordP]
 | cons c r =>
   rw [wordP]
   split
   · unfold numP; split <;> simp
   · split
     · unfold namedP; split
       · simp
       · rename_i h; intro hh; injection hh with hh; exact h hh
     · split
       · exact quoP_ne0
       · split
         · unfold namedP; split
           · simp
           · rename_i h; intro hh; injection hh with hh; exact h hh
         · split <;> simp
theorem lineR_blanks (acc : List Tk) : ∀ (l : List UInt8) (i : Nat), lineR l i acc = lineR (l.drop (l.takeWhile fun c => (c.toNat : Int) == 32).length) (i + (l.takeWhile fun c => (c.toNat : Int) == 32).length) acc := by
 intro l
 induction l with
 | nil => intro i; rfl
 | cons c r ih =>
   intro i
   by_cases hc : c = 32
   · subst hc
     rw [List.takeWhile_cons_of_pos (by decide), List.length_cons, List.drop_succ_cons, lineR_blank, ih (i + 1)]
     congr 1; omega
   · rw [List.takeWhile_cons_of_neg (by
       simp only [beq_iff_eq]
       intro h
       exact hc (UInt8.toNat_inj.1 (by have : (32 : UInt8).toNat = 32 := rfl; omega)))]
     rfl
end Go.Proofs.YtbggbcnfkcadjaaGreatDoor
namespace Go.Proofs.YtbggbcnfkcadjaaGreatDoor
open Go.RowKit
def escB (b : UInt8) : Bool := b == 34 || b == 92
def esc1 (b : UInt8) : List UInt8 := if escB b then [92, b] else [b]
def escP (l : List UInt8) : List UInt8 := l.flatMap esc1
def escN (l : List UInt8) : Nat := l.countP escB
theorem escP_len (l : List UInt8) : (escP l).length = l.length + escN l := by
 induction l with
 | nil => rfl
 | cons b l ih =>
   simp only [escP, List.flatMap_cons, List.length_append, escN, List.countP_cons, List.length_cons] at ih ⊢
   rw [ih]
   unfold esc1
   cases h : escB b <;> simp <;> omega
theorem escP_snoc (l : List UInt8) (b : UInt8) : escP (l ++ [b]) = escP l ++ esc1 b := by simp [escP]
theorem escN_snoc (l : List UInt8) (b : UInt8) : escN (l ++ [b]) = escN l + if escB b then 1 else 0 := by
 simp [escN, List.countP_append, List.countP_cons]
theorem escN_zero (l : List UInt8) (h : escN l = 0) : escP l = l := by
 induction l with
 | nil => rfl
 | cons b l ih =>
   simp only [escN, List.countP_cons] at h ih
   have hb : escB b = false := by cases hq : escB b <;> simp [hq] at h ⊢
   show esc1 b ++ escP l = _
   rw [ih (by omega), esc1, if_neg (by simp [hb])]; rfl
theorem escN_count (l : List UInt8) : Lib.countByte l 34 + Lib.countByte l 92 = escN l := by
 unfold Lib.countByte escN
 induction l with
 | nil => rfl
 | cons b l ih =>
   simp only [List.count_cons, List.countP_cons, escB]
   by_cases h1 : b = 34
   · subst h1; simp; omega
   · by_cases h2 : b = 92
     · subst h2; simp; omega
     · simp [h1, h2]; exact ih
theorem escN_le (l : List UInt8) : escN l ≤ l.length := List.countP_le_length
theorem escB_yes (b : UInt8) : escB b = true ↔ (b.toNat = 34 ∨ b.toNat = 92) := by
 simp only [escB, Bool.or_eq_true, beq_iff_eq]
 constructor
 · rintro (h | h) <;> subst h <;> simp
 · rintro (h | h)
   · exact .inl (UInt8.toNat_inj.1 (by rw [h]; rfl))
   · exact .inr (UInt8.toNat_inj.1 (by rw [h]; rfl))
theorem escP_take (l : List UInt8) (k : Nat) : (escP (l.take k)).length ≤ l.length + escN l := by
 rw [← escP_len]
 have h : escP l = escP (l.take k) ++ escP (l.drop k) := by unfold escP; rw [← List.flatMap_append, List.take_append_drop]
 rw [h, List.length_append]; omega
def byC (l : List UInt8) : List Value := l.map fun b => .int .u8 (b.toNat : Int)
theorem byC_append (a b : List UInt8) : byC (a ++ b) = byC a ++ byC b := by simp [byC]
theorem byC_len (a : List UInt8) : (byC a).length = a.length := by simp [byC]
end Go.Proofs.YtbggbcnfkcadjaaGreatDoor
namespace Go.Proofs.YtbggbcnfkcadjaaGreatDoor
open Go.RowKit
def quoteV (l : List UInt8) : List UInt8 := if textErr l = 0 then 34 :: (escP l ++ [34]) else []
def tkEq (x y : Tk) : Bool := x.kind == y.kind && (x.s.toList == y.s.toList && x.at_ == y.at_)
def speltT (x : Tk) : List UInt8 := if x.kind = 3 then quoteV x.s.toList else if x.kind = 4 then 63 :: x.s.toList else x.s.toList
def speltP (x : Tk) : List UInt8 × Bool :=
 if x.kind = 3 ∧ textErr x.s.toList ≠ 0 then ([], false)
 else match readP (bsOf (speltT x)) with
   | ([t], _, k) => if k = 0 then (speltT x, tkEq t ⟨x.kind, x.s, 0⟩) else ([], false)
   | _ => ([], false)
def joinP (ls : List (List UInt8)) : List UInt8 := Lib.join ls [32]
theorem joinP_nil : joinP [] = [] := rfl
theorem joinP_one (x : List UInt8) : joinP [x] = x := Lib.join_one _ _
theorem joinP_cons (x y : List UInt8) (r : List (List UInt8)) : joinP (x :: y :: r) = x ++ 32 :: joinP (y :: r) := by
 unfold joinP
 rw [Lib.join_cons, Lib.join_cons]
 simp [Lib.joinTail]
theorem joinP_len (m : Nat) : ∀ ls : List (List UInt8), (∀ l ∈ ls, l.length ≤ m) → (joinP ls).length ≤ ls.length * (m + 1)
 | [], _ => by simp [joinP_nil]
 | [x], h => by rw [joinP_one]; have := h x (by simp); simp; omega
 | x :: y :: r, h => by
   rw [joinP_cons]
   have h1 := h x (by simp)
   have h2 := joinP_len m (y :: r) (fun l hl => h l (List.mem_cons_of_mem _ hl))
   simp only [List.length_append, List.length_cons] at h2 ⊢
   rw [Nat.add_mul (r.length + 1) 1]
   omega
def spellP (xs : List Tk) : List UInt8 × Int :=
 if 300 < xs.length then ([], 4)
 else if xs.all (fun x => (speltP x).2) = false then ([], 1)
 else if 900 < (joinP (xs.map fun x => (speltP x).1)).length then ([], 4)
 else (joinP (xs.map fun x => (speltP x).1), 0)
theorem escP_bound (l : List UInt8) : (escP l).length ≤ 2 * l.length := by have := escP_len l; have := escN_le l; omega
theorem quoteV_len (l : List UInt8) : (quoteV l).length ≤ 122 := by
 unfold quoteV
 split
 · rename_i h
   unfold textErr at h
   split at h
   · cases h
   · have := escP_bound l
     simp only [List.length_cons, List.length_append, List.length_nil]; omega
 · simp
theorem speltP_len (x : Tk) : (speltP x).1.length ≤ 900 := by
 unfold speltP
 split
 · simp
 · split
   · rename_i t a k hq
     split
     · rename_i hk
       subst hk
       rw [readP_R] at hq
       split at hq
       · injection hq with h1 h2; cases h1
       · rename_i h9
         rw [show (bsOf (speltT x)).size = (speltT x).length by show (speltT x).toArray.size = _; simp] at h9
         show (speltT x).length ≤ 900
         omega
     · simp
   · simp
end Go.Proofs.YtbggbcnfkcadjaaGreatDoor
namespace Go.Proofs.YtbggbcnfkcadjaaGreatDoor
open Go.RowKit
def Tk.cells (x : Tk) : List Value := [.int .i64 x.kind, .string x.s, .int .i64 x.at_]
theorem tk_ok : EncOk Tk.cells 3 := ⟨fun _ => rfl, by omega, fun x u hu => by
 simp only [Tk.cells, List.mem_cons, List.not_mem_nil, or_false] at hu
 rcases hu with rfl | rfl | rfl <;> rfl⟩
abbrev TkSl := SlG Tk.cells 3
structure TkAt (w : World) (b o : Nat) (x : Tk) : Prop where
 c0 : w.cell? ⟨b, o, none⟩ = some (.int .i64 x.kind)
 c1 : w.cell? ⟨b, o + 1, none⟩ = some (.string x.s)
 c2 : w.cell? ⟨b, o + 2, none⟩ = some (.int .i64 x.at_)
theorem tkAt {w : World} {b o : Nat} {x : Tk} (h : AtG Tk.cells w b o x) : TkAt w b o x := ⟨h 0 _ rfl, h 1 _ rfl, h 2 _ rfl⟩
theorem tkSl_at {w : World} {B : Nat} {A : Option Addr} {xs : List Tk} (h : TkSl w B A xs) {i : Nat} {x : Tk} (hx : xs[i]? = some x) : ∃ b o, A = some ⟨b, o, none⟩ ∧ b < B ∧ TkAt w b (o + i * 3) x := by
 obtain ⟨b, o, h1, h2, h3⟩ := h.at_ (List.getElem?_eq_some_iff.1 hx).1
 exact ⟨b, o, h1, h2, tkAt (h3 i x hx)⟩
end Go.Proofs.YtbggbcnfkcadjaaGreatDoor
namespace Go.Proofs.YtbggbcnfkcadjaaGreatDoor
set_option maxRecDepth 100000
open Go.ChangeShapes Go.WideShapes Go.RowKit Go.Deep
def tkData {H : Type} (x : Tk) : DataW H := .agg [.lit (.int .i64 x.kind), .lit (.string x.s.data.toList), .lit (.int .i64 x.at_)]
theorem cells_tok : Tryz.prog.cellsOf 42 = 3 := by kernel_rfl
section
variable {H : Type} {enc : TypeId × Value → H} {W : World}
theorem tok_trod {base : Nat} {spare : Nat → Bool} {held : Bool} {n : Nat} {cs : List Value} {y : DataW H × List MemPlace} (h : DataW.trod enc Tryz.prog W base spare held n 42 cs = some y) :
   ∃ x : Tk, cs = x.cells ∧ y.1 = tkData x ∧ True := by
 obtain ⟨xs, m, _, hy, hlen, hxl, hf⟩ := DataW.trod_struct Tryz.underlying42 h
 rw [cells_tok] at hlen
 match cs, hlen with
 | [c0, c1, c2], _ =>
   match xs, hxl with
   | [y0, y1, y2], _ =>
     have e0 : DataW.trod enc Tryz.prog W base spare held m 3 (([c0, c1, c2].drop 0).take (Tryz.prog.cellsOf 3)) = some y0 := hf 0 _ rfl
     have e1 : DataW.trod enc Tryz.prog W base spare held m 9 (([c0, c1, c2].drop 1).take (Tryz.prog.cellsOf 9)) = some y1 := hf 1 _ rfl
     have e2 : DataW.trod enc Tryz.prog W base spare held m 3 (([c0, c1, c2].drop 2).take (Tryz.prog.cellsOf 3)) = some y2 := hf 2 _ rfl
     have k3 : Tryz.prog.cellsOf 3 = 1 := by kernel_rfl
     have k9 : Tryz.prog.cellsOf 9 = 1 := by kernel_rfl
     simp only [k3, k9, List.drop_zero, List.drop_succ_cons, List.take_succ_cons, List.take_zero] at e0 e1 e2
     obtain ⟨a0, q0, r0, _⟩ := DataW.trod_int Tryz.underlying3 e0
     obtain ⟨a1, q1, r1, _⟩ := DataW.trod_string Tryz.underlying9 e1
     obtain ⟨a2, q2, r2, _⟩ := DataW.trod_int Tryz.underlying3 e2
     simp only [List.cons.injEq, and_true] at q0 q1 q2
     subst q0 q1 q2 r0 r1 r2
     exact ⟨⟨a0, a1, a2⟩, rfl, by rw [hy]; rfl, trivial⟩
theorem open_toks {base : Nat} {v : Value} {d : DataW H} {p : List MemPlace} (hv : Value.okWide Tryz.prog W .any base 23 v) (h : DataW.Trod enc Tryz.prog W 0 (fun _ => true) true 23 v d p) :
   ∃ (A : Option Addr) (xs : List Tk) (c : Nat), v = .slice A xs.length c ∧ xs.length ≤ c ∧ c ≤ 9223372036854775807 ∧ TkSl W W.heap.size A xs ∧ (xs = [] ∨ ∃ sp, d = .slice (xs.map tkData) sp) := by
 obtain ⟨a0, len, cap, rfl⟩ := okWide_slice Tryz.underlying23 hv
 obtain ⟨fuel, hf⟩ := h
 obtain ⟨A, xs, c, hcs, h1, h2, h3, _, h5⟩ := open_gen Tryz.underlying23 cells_tok tk_ok (fun _ _ _ h => tok_trod h) hf
 refine ⟨A, xs, c, ?_, h1, h2, h3, h5⟩
 simpa [Value.cells] using hcs
theorem sized_toks {ts : List TypeId} {ds : List (DataW H)} (h : (DataW.weightsEach Tryz.prog ts ds).all (· ≤ reachBytes) = true) {j : Nat} {xs : List Tk} (ht : ts[j]? = some 23)
   (hd : xs = [] ∨ ∃ sp, ds[j]? = some (.slice (xs.map tkData) sp)) : ∀ x ∈ xs, x.s.size ≤ 140737488351232 := by
 intro x hx
 rcases hd with rfl | ⟨sp, hd⟩
 · cases hx
 · have hw : ∀ n, n ∈ (tkData x : DataW H).weights Tryz.prog 42 → n ≤ reachBytes := fun n hn => by
     have := List.all_eq_true.1 h n (DataW.weights_mem_each ht hd n (slice_weights Tryz.underlying23 (List.mem_map_of_mem hx) hn))
     simpa using this
   have h1 := hw x.s.data.toList.length (by simp [tkData, DataW.weights, Tryz.underlying42, DataW.weightsEach])
   rw [← ByteArray.toList_eq, toList_len] at h1
   simp only [reachBytes] at h1
   exact h1
end
theorem toks_rec : Tryz.prog.readableRec 23 = true := by kernel_rfl
theorem toks_lt : 23 < Tryz.prog.types.size := of_decide_eq_true (by kernel_rfl)
end Go.Proofs.YtbggbcnfkcadjaaGreatDoor
