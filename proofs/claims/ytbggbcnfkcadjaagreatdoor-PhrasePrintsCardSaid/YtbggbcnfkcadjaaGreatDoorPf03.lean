/-
  ARGUMENTS that are lists of any kind of values, opened: what the row's reading says of memory. Facts of the seat's program that each row asks.
  ARGUMENTS that are lists of nodes, opened: what the row's reading says of memory. Facts of the seat's program that each row asks.
  PLAIN WORDS: the words of a line, on lists of bytes. No program in sight. PLAIN LAWS: reading a line, word by word; line behind line. PLAIN WORDS: what a text is between quotes. PLAIN WORDS: the spelling of words.
  PLAIN WORDS: tokens in memory.
-/
import Derived.Test.YtbggbcnfkcadjaaGreatDoorPf01
import Derived.Test.YtbggbcnfkcadjaaGreatDoorProg
import Derived.Deep.Slices
import Derived.Deep.Fields
import Derived.ChangeSame
import Derived.SizedLaws
import Derived.ProofKit
import Derived.Test.YtbggbcnfkcadjaaGreatDoorPf02
import Derived.Lib.Bytealg
import Derived.Lib.Join
namespace Go.Proofs.YtbggbcnfkcadjaaGreatDoor
set_option maxRecDepth 100000
open Go.ChangeShapes Go.WideShapes Go.RowKit Go.Deep
section
variable {H : Type} {enc : TypeId × Value → H} {W : World}
theorem open_gen {α : Type} {en : α → List Value} {k : Nat} {data : α → DataW H} {Good : α → Prop} {t e : TypeId} (ht : Tryz.prog.underlying t = some (.slice e)) (ce : Tryz.prog.cellsOf e = k) (he : EncOk en k)
   (hel : ∀ n cs y, DataW.trod enc Tryz.prog W 0 (fun _ => true) true n e cs = some y → ∃ x, cs = en x ∧ y.1 = data x ∧ Good x) {fuel : Nat} {cs : List Value} {y : DataW H × List MemPlace}
   (hf : DataW.trod enc Tryz.prog W 0 (fun _ => true) true fuel t cs = some y) :
   ∃ (A : Option Addr) (xs : List α) (c : Nat), cs = [.slice A xs.length c] ∧ xs.length ≤ c ∧ c ≤ 9223372036854775807 ∧ SlG en k W W.heap.size A xs ∧ (∀ x ∈ xs, Good x) ∧ (xs = [] ∨ ∃ sp, y.1 = .slice (xs.map data) sp) := by
 rcases open_slice ht hf with ⟨hcs, _⟩ | ⟨a, len', cap', m, n, D, Pl, hcs, _, hl, hm, hmm, hx, hi⟩
 · exact ⟨none, [], 0, hcs, by simp, by omega, SlG.nil _ _ _, by simp, .inl rfl⟩
 · simp only [if_true] at hmm
   subst hmm
   have hel' : ∀ i, i < m → ∃ x : α, D i = data x ∧ Good x ∧ ∀ j u, (en x)[j]? = some u → W.cell? (a.add (i * k + j)) = some u := by
     intro i him
     obtain ⟨cs', hc, ht'⟩ := hi i him
     rw [ce] at hc
     obtain ⟨x, rfl, hd, hg⟩ := hel _ _ _ ht'
     refine ⟨x, hd, hg, fun j u hu => ?_⟩
     obtain ⟨_, _, hat⟩ := World.cells?_some hc
     have hj : j < k := by have := (List.getElem?_eq_some_iff.1 hu).1; rwa [he.len] at this
     have := hat j hj
     rw [add_add] at this
     rw [this, hu]
   have hxs : ∀ r, r ≤ m → ∃ xs : List α, xs.length = r ∧ (List.range r).map D = xs.map data ∧ (∀ x ∈ xs, Good x) ∧ ∀ i x, xs[i]? = some x → ∀ j u, (en x)[j]? = some u → W.cell? (a.add (i * k + j)) = some u := by
     intro r
     induction r with
     | zero => intro _; exact ⟨[], rfl, rfl, by simp, fun i x hx => by simp at hx⟩
     | succ r ih =>
       intro hk
       obtain ⟨xs, h1, h2, h3, h4⟩ := ih (by omega)
       obtain ⟨x, hd, hg, hc⟩ := hel' r (by omega)
       refine ⟨xs ++ [x], by simp [h1], by rw [List.range_succ, List.map_append, List.map_append, h2]; simp [hd], fun z hz => ?_, fun i y hy => ?_⟩
       · rcases List.mem_append.1 hz with hz | hz
         · exact h3 z hz
         · rw [List.mem_singleton] at hz; subst hz; exact hg
       · rcases Nat.lt_or_ge i xs.length with hlt | hge
         · rw [List.getElem?_append_left hlt] at hy; exact h4 i y hy
         · have : i = xs.length := by
             have := (List.getElem?_eq_some_iff.1 hy).1
             simp at this; omega
           subst this
           simp at hy
           subst hy
           rw [h1]; exact hc
   obtain ⟨xs, h1, h2, h3, h4⟩ := hxs len' hl
   subst h1
   refine ⟨some a, xs, m, hcs, hl, by unfold maxLen at hm; omega, fun hne => ?_, h3, .inr ⟨_, by rw [hx, ← h2]⟩⟩
   have h0 : 0 < xs.length := List.length_pos_iff.2 hne
   have hen : 0 < (en xs[0]).length := by rw [he.len]; exact he.pos
   have hc0 := h4 0 xs[0] (List.getElem?_eq_getElem h0) 0 _ (List.getElem?_eq_getElem hen)
   have hsp : a.spot = none := by
     cases hs : a.spot with
     | none => rfl
     | some q =>
       simp [World.cell?, Addr.add, hs] at hc0
       split at hc0 <;> simp at hc0
   obtain ⟨b, o, sp⟩ := a
   simp only at hsp
   subst hsp
   simp only [add_none] at h4 hc0
   refine ⟨b, o, rfl, World.block_lt_of_cell? W _ hc0, fun i x hx j u hu => ?_⟩
   rw [Nat.add_assoc]
   exact h4 i x hx j u hu
end
end Go.Proofs.YtbggbcnfkcadjaaGreatDoor
namespace Go.Proofs.YtbggbcnfkcadjaaGreatDoor
open Go.ChangeShapes Go.WideShapes Go.ChangeAt Go.RowKit Go.WideMaps
theorem Tryz.own : ownKnob Tryz.prog.godebug = none := by kernel_rfl
theorem Tryz.laidOut : laidOutB Tryz.prog = true := by kernel_rfl
end Go.Proofs.YtbggbcnfkcadjaaGreatDoor
namespace Go.Proofs.YtbggbcnfkcadjaaGreatDoor
set_option maxRecDepth 100000
open Go.ChangeShapes Go.WideShapes Go.RowKit Go.Deep
def ndData {H : Type} (x : Nd) : DataW H := .agg [.lit (.int .i64 x.op), .lit (.int .i64 x.n), .lit (.string x.s.data.toList), .lit (.string x.t.data.toList)]
theorem cells_node : Tryz.prog.cellsOf 29 = 4 := by kernel_rfl
section
variable {H : Type} {enc : TypeId × Value → H} {W : World}
theorem node_trod {base : Nat} {spare : Nat → Bool} {held : Bool} {n : Nat} {cs : List Value} {y : DataW H × List MemPlace} (h : DataW.trod enc Tryz.prog W base spare held n 29 cs = some y) :
   ∃ x : Nd, cs = x.cells ∧ y.1 = ndData x := by
 obtain ⟨xs, m, _, hy, hlen, hxl, hf⟩ := DataW.trod_struct Tryz.underlying29 h
 rw [cells_node] at hlen
 match cs, hlen with
 | [c0, c1, c2, c3], _ =>
   match xs, hxl with
   | [y0, y1, y2, y3], _ =>
     have e0 : DataW.trod enc Tryz.prog W base spare held m 3 (([c0, c1, c2, c3].drop 0).take (Tryz.prog.cellsOf 3)) = some y0 := hf 0 _ rfl
     have e1 : DataW.trod enc Tryz.prog W base spare held m 3 (([c0, c1, c2, c3].drop 1).take (Tryz.prog.cellsOf 3)) = some y1 := hf 1 _ rfl
     have e2 : DataW.trod enc Tryz.prog W base spare held m 9 (([c0, c1, c2, c3].drop 2).take (Tryz.prog.cellsOf 9)) = some y2 := hf 2 _ rfl
     have e3 : DataW.trod enc Tryz.prog W base spare held m 9 (([c0, c1, c2, c3].drop 3).take (Tryz.prog.cellsOf 9)) = some y3 := hf 3 _ rfl
     have k3 : Tryz.prog.cellsOf 3 = 1 := by kernel_rfl
     have k9 : Tryz.prog.cellsOf 9 = 1 := by kernel_rfl
     simp only [k3, k9, List.drop_zero, List.drop_succ_cons, List.take_succ_cons, List.take_zero] at e0 e1 e2 e3
     obtain ⟨a0, q0, r0, _⟩ := DataW.trod_int Tryz.underlying3 e0
     obtain ⟨a1, q1, r1, _⟩ := DataW.trod_int Tryz.underlying3 e1
     obtain ⟨a2, q2, r2, _⟩ := DataW.trod_string Tryz.underlying9 e2
     obtain ⟨a3, q3, r3, _⟩ := DataW.trod_string Tryz.underlying9 e3
     simp only [List.cons.injEq, and_true] at q0 q1 q2 q3
     subst q0 q1 q2 q3 r0 r1 r2 r3
     exact ⟨⟨a0, a1, a2, a3⟩, rfl, by rw [hy]; rfl⟩
theorem weights_all {P : Program} {e : TypeId} {d : DataW H} {n : Nat} : ∀ {l : List (DataW H)}, d ∈ l → n ∈ d.weights P e → n ∈ DataW.weightsAll P e l
 | [], h, _ => by cases h
 | x :: l, h, hn => by
   simp only [DataW.weightsAll, List.mem_append]
   rcases List.mem_cons.1 h with rfl | h
   · exact .inl hn
   · exact .inr (weights_all h hn)
theorem sized_nodes {ts : List TypeId} {ds : List (DataW H)} (h : (DataW.weightsEach Tryz.prog ts ds).all (· ≤ reachBytes) = true) {j : Nat} {xs : List Nd} (ht : ts[j]? = some 22)
   (hd : xs = [] ∨ ∃ sp, ds[j]? = some (.slice (xs.map ndData) sp)) : NdOk xs := by
 intro x hx
 rcases hd with rfl | ⟨sp, hd⟩
 · cases hx
 · have hw : ∀ n, n ∈ (ndData x : DataW H).weights Tryz.prog 29 → n ≤ reachBytes := fun n hn => by
     have := List.all_eq_true.1 h n (DataW.weights_mem_each ht hd n (by
       simp only [DataW.weights, Tryz.underlying22, List.mem_cons, List.mem_append]
       exact .inr (.inl (weights_all (List.mem_map_of_mem hx) hn))))
     simpa using this
   have h1 := hw x.s.data.toList.length (by simp [ndData, DataW.weights, Tryz.underlying29, DataW.weightsEach])
   have h2 := hw x.t.data.toList.length (by simp [ndData, DataW.weights, Tryz.underlying29, DataW.weightsEach])
   rw [← ByteArray.toList_eq, toList_len] at h1 h2
   simp only [reachBytes] at h1 h2
   exact ⟨h1, h2⟩
end
end Go.Proofs.YtbggbcnfkcadjaaGreatDoor
namespace Go.Proofs.YtbggbcnfkcadjaaGreatDoor
open Go.ChangeShapes Go.WideShapes Go.ChangeAt Go.RowKit Go.WideMaps
theorem nodes_rec : Tryz.prog.readableRec 22 = true := by kernel_rfl
theorem nodes_lt : 22 < Tryz.prog.types.size := of_decide_eq_true (by kernel_rfl)
end Go.Proofs.YtbggbcnfkcadjaaGreatDoor
namespace Go.Proofs.YtbggbcnfkcadjaaGreatDoor
open Go.RowKit
def digB (c : UInt8) : Bool := digitI (c.toNat : Int)
def letB (c : UInt8) : Bool := letterI (c.toNat : Int)
inductive Wd where
 | bad (k : Int)
 | ok (kind : Int) (t : List UInt8) (n : Nat)
def numP (l : List UInt8) : Wd :=
 if 19 < ((l.takeWhile digB).dropWhile (· == 48)).length then .bad 4
 else .ok 2 (if ((l.takeWhile digB).dropWhile (· == 48)) = [] then [48] else (l.takeWhile digB).dropWhile (· == 48)) (l.takeWhile digB).length
def namedP (kind : Int) (l : List UInt8) (x : Nat) : Wd :=
 if nameErr (l.takeWhile nameB) = 0 then .ok kind (l.takeWhile nameB) ((l.takeWhile nameB).length + x) else .bad (nameErr (l.takeWhile nameB))
def quoP : List UInt8 → List UInt8 → Nat → Wd
 | [], _, _ => .bad 1
 | c :: r, acc, n =>
   if c = 34 then (if 60 < acc.length then .bad 4 else .ok 3 acc (n + 1))
   else if c = 92 then
     match r with
     | [] => .bad 1
     | d :: r' => if d = 34 ∨ d = 92 then quoP r' (acc ++ [d]) (n + 2) else .bad 1
   else if plainB c then quoP r (acc ++ [c]) (n + 1) else .bad 1
def sign1 (a : UInt8) : Bool := a == 40 || a == 41 || a == 91 || a == 93 || a == 123 || a == 125 || a == 44 || a == 46 || a == 33 || a == 43 || a == 45 || a == 42
def signP : List UInt8 → List UInt8
 | [] => []
 | a :: r =>
   if sign1 a then [a]
   else if a = 58 then (if r.head? = some 58 then [58, 58] else [58])
   else if a = 60 then (if r.head? = some 61 then [60, 61] else [60])
   else if (a = 61 ∨ a = 38 ∨ a = 124) ∧ r.head? = some a then [a, a]
   else []
def wordP (l : List UInt8) : Wd :=
 match l with
 | [] => .bad 1
 | c :: r =>
   if digB c then numP l
   else if letB c then namedP 1 l 0
   else if c = 34 then quoP r [] 1
   else if c = 63 then namedP 4 r 1
   else if signP l = [] then .bad 1 else .ok 5 (signP l) (signP l).length
structure Tk where
 kind : Int
 s : ByteArray
 at_ : Int
def bsOf (l : List UInt8) : ByteArray := ⟨l.toArray⟩
def lineP : Nat → List UInt8 → Nat → List Tk → List Tk × Nat × Int
 | 0, _, _, acc => (acc, 0, 0)
 | f + 1, l, i, acc =>
   match l with
   | [] => (acc, 0, 0)
   | c :: r =>
     if c = 32 then lineP f r (i + 1) acc
     else match wordP l with
       | .bad k => ([], i, k)
       | .ok kind t n => if acc.length = 300 then ([], i, 4) else lineP f (l.drop n) (i + n) (acc ++ [⟨kind, bsOf t, i⟩])
def readP (s : ByteArray) : List Tk × Nat × Int := if 900 < s.size then ([], 0, 4) else lineP s.size s.toList 0 []
theorem quoP_n : ∀ {l : List UInt8} {acc : List UInt8} {n : Nat} {kind : Int} {t : List UInt8} {m : Nat}, quoP l acc n = .ok kind t m → n < m ∧ m ≤ n + l.length ∧ kind = 3
 | [], acc, n, kind, t, m, h => by simp [quoP] at h
 | [c], acc, n, kind, t, m, h => by
   rw [quoP] at h
   split at h
   · split at h
     · cases h
     · injection h with h1 h2 h3; subst h1 h2 h3; simp
   · split at h
     · cases h
     · split at h
       · rw [quoP] at h; cases h
       · cases h
 | c :: d :: r, acc, n, kind, t, m, h => by
   rw [quoP] at h
   split at h
   · split at h
     · cases h
     · injection h with h1 h2 h3; subst h1 h2 h3; simp
   · split at h
     · split at h
       · have := quoP_n h; simp only [List.length_cons]; omega
       · cases h
     · split at h
       · have := quoP_n h; simp only [List.length_cons] at this ⊢; omega
       · cases h
end Go.Proofs.YtbggbcnfkcadjaaGreatDoor
namespace Go.Proofs.YtbggbcnfkcadjaaGreatDoor
open Go.RowKit
theorem letB_name {c : UInt8} (h : letB c = true) : nameB c = true := by unfold letB at h; simp [nameB, h]
theorem takeWhile_pos {p : UInt8 → Bool} {c : UInt8} {r : List UInt8} (h : p c = true) : 1 ≤ ((c :: r).takeWhile p).length := by
 rw [List.takeWhile_cons_of_pos h, List.length_cons]; omega
theorem takeWhile_len (p : UInt8 → Bool) (l : List UInt8) : (l.takeWhile p).length ≤ l.length := (List.takeWhile_prefix p).length_le
theorem signP_cons (a : UInt8) (r : List UInt8) : signP (a :: r) = if sign1 a then [a] else if a = 58 then (if r.head? = some 58 then [58, 58] else [58]) else if a = 60 then (if r.head? = some 61 then [60, 61] else [60]) else if (a = 61 ∨ a = 38 ∨ a = 124) ∧ r.head? = some a then [a, a] else [] := rfl
theorem head_some {r : List UInt8} {b : UInt8} (h : r.head? = some b) : 1 ≤ r.length := by
 cases r with
 | nil => simp at h
 | cons => simp
theorem signP_len (l : List UInt8) : (signP l).length ≤ l.length := by
 cases l with
 | nil => simp [signP]
 | cons a r =>
   rw [signP_cons, List.length_cons]
   split
   · simp
   · split
     · split
       · rename_i h; have := head_some h; simp; omega
       · simp
     · split
       · split
         · rename_i h; have := head_some h; simp; omega
         · simp
       · split
         · rename_i h; have := head_some h.2; simp; omega
         · simp
theorem quoP_cons (c : UInt8) (r acc : List UInt8) (n : Nat) : quoP (c :: r) acc n = if c = 34 then (if 60 < acc.length then .bad 4 else .ok 3 acc (n + 1)) else if c = 92 then (match r with | [] => .bad 1 | d :: r' => if d = 34 ∨ d = 92 then quoP r' (acc ++ [d]) (n + 2) else .bad 1) else if plainB c then quoP r (acc ++ [c]) (n + 1) else .bad 1 := by
 cases r with
 | nil => conv => lhs; unfold quoP
 | cons d r => conv => lhs; unfold quoP
theorem wordP_n {l : List UInt8} {kind : Int} {t : List UInt8} {n : Nat} (h : wordP l = .ok kind t n) : 1 ≤ n ∧ n ≤ l.length := by
 cases l with
 | nil => simp [wordP] at h
 | cons c r =>
   rw [wordP] at h
   split at h
   · rename_i hd
     unfold numP at h
     split at h
     · cases h
     · injection h with h1 h2 h3
       subst h3
       exact ⟨takeWhile_pos hd, takeWhile_len _ _⟩
   · split at h
     · rename_i hl
       unfold namedP at h
       split at h
       · injection h with h1 h2 h3
         subst h3
         exact ⟨takeWhile_pos (letB_name hl), takeWhile_len _ _⟩
       · cases h
     · split at h
       · have := quoP_n h
         simp only [List.length_cons]; omega
       · split at h
         · unfold namedP at h
           split at h
           · injection h with h1 h2 h3
             subst h3
             have := takeWhile_len nameB r
             simp only [List.length_cons]; omega
           · cases h
         · split at h
           · cases h
           · rename_i hs
             injection h with h1 h2 h3
             subst h3
             exact ⟨List.length_pos_iff.2 hs, signP_len _⟩
def lineR (l : List UInt8) (i : Nat) (acc : List Tk) : List Tk × Nat × Int := lineP l.length l i acc
theorem lineP_more : ∀ (f : Nat) (l : List UInt8) (i : Nat) (acc : List Tk), l.length ≤ f → lineP f l i acc = lineP l.length l i acc := by
 intro f
 induction f using Nat.strongRecOn with
 | _ f ih =>
   intro l i acc hl
   cases f with
   | zero => rw [Nat.le_zero.1 hl]
   | succ f =>
     cases l with
     | nil => simp [lineP]
     | cons c r =>
       simp only [List.length_cons] at hl ⊢
       rw [lineP, lineP]
       split
       · exact ih f (by omega) r _ _ (by omega)
       · split
         · rfl
         · rename_i kind t n hw
           have hn := wordP_n hw
           split
           · rfl
           · have hd : ((c :: r).drop n).length ≤ r.length := by rw [List.length_drop, List.length_cons]; omega
             rw [ih f (by omega) _ _ _ (by omega), ih r.length (by omega) _ _ _ hd]
theorem lineR_blank (r : List UInt8) (i : Nat) (acc : List Tk) : lineR (32 :: r) i acc = lineR r (i + 1) acc := by
 unfold lineR; rw [List.length_cons, lineP, if_pos rfl]
theorem lineR_bad {c : UInt8} {r : List UInt8} {k : Int} (hc : c ≠ 32) (h : wordP (c :: r) = .bad k) (i : Nat) (acc : List Tk) : lineR (c :: r) i acc = ([], i, k) := by
 unfold lineR; rw [List.length_cons, lineP, if_neg hc, h]
theorem lineR_ok {c : UInt8} {r : List UInt8} {kind : Int} {t : List UInt8} {n : Nat} (hc : c ≠ 32) (h : wordP (c :: r) = .ok kind t n) (i : Nat) (acc : List Tk) :
   lineR (c :: r) i acc = if acc.length = 300 then ([], i, 4) else lineR ((c :: r).drop n) (i + n) (acc ++ [⟨kind, bsOf t, i⟩]) := by
 unfold lineR
 rw [List.length_cons, lineP, if_neg hc, h]
 have hn := wordP_n h
 simp only
 split
 · rfl
 · exact lineP_more _ _ _ _ (by rw [List.length_drop, List.length_cons]; omega)
theorem readP_R (s : ByteArray) : readP s = if 900 < s.size then ([], 0, 4) else lineR s.toList 0 [] := by
 unfold readP lineR; rw [toList_len]
theorem quoP_ne0 : ∀ {l : List UInt8} {acc : List UInt8} {n : Nat}, quoP l acc n ≠ .bad 0
 | [], acc, n => by simp [quoP]
 | [c], acc, n => by
   rw [quoP]
   split
   · split <;> simp
   · split
     · simp
     · split
       · simp [quoP]
       · simp
 | c :: d :: r, acc, n => by
   rw [quoP]
   split
   · split <;> simp
   · split
     · split
       · exact quoP_ne0
       · simp
     · split
       · exact quoP_ne0
       · simp
theorem wordP_ne0 {l : List UInt8} : wordP l ≠ .bad 0 := by
 cases l with
 | nil => simp [wordP]
 | cons c r =>
   rw [wordP]
   split
   · unfold numP; split <;> simp
   · split
     · unfold namedP; split
       · simp
       · rename_i h; intro hh; injection hh with hh; exact h hh
     · split
       · exact quoP_ne0
       · split
         · unfold namedP; split
           · simp
           · rename_i h; intro hh; injection hh with hh; exact h hh
         · split <;> simp
end Go.Proofs.YtbggbcnfkcadjaaGreatDoor
namespace Go.Proofs.YtbggbcnfkcadjaaGreatDoor
open Go.RowKit
end Go.Proofs.YtbggbcnfkcadjaaGreatDoor
namespace Go.Proofs.YtbggbcnfkcadjaaGreatDoor
open Go.RowKit
end Go.Proofs.YtbggbcnfkcadjaaGreatDoor
namespace Go.Proofs.YtbggbcnfkcadjaaGreatDoor
open Go.RowKit
def Tk.cells (x : Tk) : List Value := [.int .i64 x.kind, .string x.s, .int .i64 x.at_]
theorem tk_ok : EncOk Tk.cells 3 := ⟨fun _ => rfl, by omega, fun x u hu => by
 simp only [Tk.cells, List.mem_cons, List.not_mem_nil, or_false] at hu
 rcases hu with rfl | rfl | rfl <;> rfl⟩
abbrev TkSl := SlG Tk.cells 3
structure TkAt (w : World) (b o : Nat) (x : Tk) : Prop where
 c0 : w.cell? ⟨b, o, none⟩ = some (.int .i64 x.kind)
 c1 : w.cell? ⟨b, o + 1, none⟩ = some (.string x.s)
 c2 : w.cell? ⟨b, o + 2, none⟩ = some (.int .i64 x.at_)
theorem tkAt {w : World} {b o : Nat} {x : Tk} (h : AtG Tk.cells w b o x) : TkAt w b o x := ⟨h 0 _ rfl, h 1 _ rfl, h 2 _ rfl⟩
theorem tkSl_at {w : World} {B : Nat} {A : Option Addr} {xs : List Tk} (h : TkSl w B A xs) {i : Nat} {x : Tk} (hx : xs[i]? = some x) : ∃ b o, A = some ⟨b, o, none⟩ ∧ b < B ∧ TkAt w b (o + i * 3) x := by
 obtain ⟨b, o, h1, h2, h3⟩ := h.at_ (List.getElem?_eq_some_iff.1 hx).1
 exact ⟨b, o, h1, h2, tkAt (h3 i x hx)⟩
end Go.Proofs.YtbggbcnfkcadjaaGreatDoor
