/-
  PLAIN WORDS: nodes as data, names and texts; small lemmas on endings, worlds and bytes. No program in sight. PLAIN WORDS: slices of nodes in memory; their order. PLAIN WORDS ON WORLDS: 'only one block, and what is new, has turned'; a block that is known whole. SLICES OF STRINGS in memory. PLAIN WORDS: slices of values of k cells each, in memory; rows of them that a call makes.
  PLAIN WORDS: values: what the reader of nodes does, in lists. PLAIN WORDS: expressions: what package tree computes, in lists. PLAIN WORDS: where an expression ends. PLAIN WORDS: what Skip computes is where the expression ends; of a whole expression each node begins one. PLAIN WORDS: a slice of nodes, cell by cell; rows of nodes that a call makes. PLAIN WORDS: an expression put for a name. PLAIN LAWS for TreeSizes. PLAIN LAWS: an expression as a relation; what is put at a name leaves an expression. PLAIN LAWS for TreeGone, TreeTwice, TreeValues. PLAIN WORDS: rising lists of texts. PLAIN WORDS: the names of an expression, rising, each once. PLAIN LAWS: the names of an expression, each time the least that is greater than the last one. PLAIN WORDS: policies: what is wrong with one.
  THE WALKS of package name: letter, digit, Check, Plain. For every string (up to the reach).
-/
import Derived.WalkKit
import Derived.WalkSpells
import Derived.WalkLawsBesides
import Derived.Lib.ConvBytes
import Derived.Lib.Hide
import Derived.Lib.Bytealg
import Derived.Deep.QuietTactic
import Derived.Sort.OwnSorted
import Derived.Laws.OwnMore
import Derived.Lib.IndexBytes
import Derived.Lib.SlicesCompact
import Derived.Lib.RowBridge
import Derived.Test.YtbggbcnfkcadjaaGreatDoorProg
import Derived.WideLaws
import Derived.KernelRfl
namespace Go.Proofs.YtbggbcnfkcadjaaGreatDoor
open Go.RowKit
theorem ret_bool {a b : Bool} (h : a = b) : Ending.returned (.bool a) = .returned (.bool b) := by rw [h]
theorem ret_int {k : IntKind} {a b : Int} (h : a = b) : Ending.returned (.int k a) = .returned (.int k b) := by rw [h]
theorem ret_val {a b : Value} (h : a = b) : Ending.returned a = .returned b := by rw [h]
theorem bcell {W w1 : World} (hb : Below W.heap.size W w1) : (∀ b o, b < W.heap.size → w1.cell? ⟨b, o, none⟩ = W.cell? ⟨b, o, none⟩) ∧ (∀ b o, b < W.heap.size → w1.frozen? ⟨b, o, none⟩ = W.frozen? ⟨b, o, none⟩) :=
 ⟨fun b o h => hb.cell (p := ⟨b, o, none⟩) h, fun b o h => hb.frozen (p := ⟨b, o, none⟩) h⟩
def letterI (b : Int) : Bool := (decide (97 ≤ b) && decide (b ≤ 122)) || (decide (65 ≤ b) && decide (b ≤ 90)) || b == 95
def digitI (b : Int) : Bool := decide (48 ≤ b) && decide (b ≤ 57)
def nameB (c : UInt8) : Bool := letterI (c.toNat : Int) || digitI (c.toNat : Int)
def plainB (c : UInt8) : Bool := decide (32 ≤ (c.toNat : Int)) && decide ((c.toNat : Int) ≤ 126)
def nameErr (l : List UInt8) : Int :=
 match l with
 | [] => 1
 | c :: _ => if letterI (c.toNat : Int) = false then 1 else if l.all nameB = false then 1 else if 20 < l.length then 4 else 0
def textErr (l : List UInt8) : Int := if 60 < l.length then 4 else if l.all plainB = false then 1 else 0
theorem toList_len (s : ByteArray) : s.toList.length = s.size := by rw [ByteArray.toList_eq]; exact Array.length_toList
theorem toList_get (s : ByteArray) (j : Nat) (hj : j < s.size) : s.toList[j]? = some s[j] := by
 have hj' : j < s.data.size := hj
 rw [ByteArray.toList_eq, Array.getElem?_toList, Array.getElem?_eq_getElem hj']; rfl
theorem toList_nil {s : ByteArray} (h : ¬ 0 < s.size) : s.toList = [] := by
 apply List.eq_nil_of_length_eq_zero; rw [toList_len]; omega
theorem toList_cons {s : ByteArray} (h : 0 < s.size) : ∃ l, s.toList = s[0] :: l := by
 have h1 := toList_get s 0 h
 cases hd : s.toList with
 | nil => rw [hd] at h1; simp at h1
 | cons a l => rw [hd] at h1; simp at h1; exact ⟨l, by rw [h1]⟩
theorem toList_ne {s : ByteArray} (h : 0 < s.size) : s.toList.isEmpty = false := by
 obtain ⟨l, e⟩ := toList_cons h; rw [e]; rfl
theorem all_take (l : List UInt8) (p : UInt8 → Bool) (k : Nat) (c : UInt8) (h : (l.take k).all p = true) (hc : l[k]? = some c) (hp : p c = true) : (l.take (k + 1)).all p = true := by
 rw [List.take_add_one, hc, List.all_append, h]; simp [hp]
theorem all_bad (l : List UInt8) (p : UInt8 → Bool) (k : Nat) (c : UInt8) (hc : l[k]? = some c) (hp : p c = false) : l.all p = false := by
 rw [List.all_eq_false]; exact ⟨c, List.mem_of_getElem? hc, by simp [hp]⟩
theorem bytes_conv {P : Program} (w : World) (src dst e : TypeId) (s : ByteArray) {u : TypeDesc}
   (hs : P.underlying src = some u) (hd : P.underlying dst = some (.slice e)) (he : P.underlying e = some (.int .u8)) :
   ∃ cap w1, (convert src dst (.string s)).run P w = .ok (.slice (some ⟨w.heap.size, 0, none⟩) s.size cap) w1 ∧
     (∀ j (hj : j < s.size), w1.cell? ⟨w.heap.size, j, none⟩ = some (.int .u8 (s[j].toNat))) ∧ Below w.heap.size w w1 := by
 refine ⟨_, _, Lib.run_convert_string_bytes w src dst e s hs hd he, fun j hj => ?_, ?_⟩
 · rw [Lib.bytesWorld_cell w e s j hj]
   have : s.data.toList.getD j 0 = s[j] := by
     rw [← ByteArray.toList_eq]
     simp only [List.getD, toList_get s j hj]; rfl
   rw [this]
 · exact ⟨rfl, rfl, rfl, by rw [Lib.bytesWorld_size]; omega, fun k hk => Lib.bytesWorld_at_old w e s k hk⟩
structure Nd where
 op : Int
 n : Int
 s : ByteArray
 t : ByteArray
def Nd.cells (x : Nd) : List Value := [.int .i64 x.op, .int .i64 x.n, .string x.s, .string x.t]
def ndParts (x : Nd) : Int :=
 if x.op = 1 ∨ x.op = 2 ∨ x.op = 3 ∨ x.op = 4 ∨ x.op = 8 then 0
 else if x.op = 5 ∨ x.op = 6 then x.n
 else if x.op = 7 ∨ x.op = 9 ∨ x.op = 10 ∨ x.op = 21 ∨ x.op = 22 ∨ x.op = 23 ∨ x.op = 24 then 1
 else if x.op = 11 ∨ x.op = 12 ∨ x.op = 14 ∨ x.op = 15 ∨ x.op = 16 ∨ x.op = 17 ∨ x.op = 18 ∨ x.op = 19 ∨ x.op = 20 ∨ x.op = 25 ∨ x.op = 26 ∨ x.op = 27 then 2
 else if x.op = 13 then 3 else -1
def reserved (l : List UInt8) : Bool :=
 l == [105, 102] || l == [116, 104, 101, 110] || l == [101, 108, 115, 101] || l == [116, 114, 117, 101] || l == [102, 97, 108, 115, 101] || l == [105, 110] || l == [104, 97, 115] || l == [108, 105, 107, 101] || l == [105, 115]
def shapedV (x : Nd) : Bool :=
 if x.op = 1 then (x.n == 0 || x.n == 1) && x.s.toList.isEmpty && x.t.toList.isEmpty
 else if x.op = 2 then x.s.toList.isEmpty && x.t.toList.isEmpty
 else if x.op = 3 then x.n == 0 && x.t.toList.isEmpty && textErr x.s.toList == 0
 else if x.op = 4 then x.n == 0 && nameErr x.s.toList == 0 && textErr x.t.toList == 0
 else if x.op = 5 ∨ x.op = 6 then decide (0 ≤ x.n) && x.s.toList.isEmpty && x.t.toList.isEmpty
 else if x.op = 7 then x.n == 0 && x.t.toList.isEmpty && nameErr x.s.toList == 0
 else false
def cmpI (a b : Int) : Int := if a < b then -1 else if b < a then 1 else 0
def orI : List Int → Int
 | [] => 0
 | a :: l => if a = 0 then orI l else a
def ndCmp (x y : Nd) : Int := orI [cmpI x.op y.op, cmpI x.n y.n, Lib.compareBytes x.s.data.toList y.s.data.toList, Lib.compareBytes x.t.data.toList y.t.data.toList]
end Go.Proofs.YtbggbcnfkcadjaaGreatDoor
namespace Go.Proofs.YtbggbcnfkcadjaaGreatDoor
open Go.RowKit
structure NdAt (w : World) (b o : Nat) (x : Nd) : Prop where
 c0 : w.cell? ⟨b, o, none⟩ = some (.int .i64 x.op)
 c1 : w.cell? ⟨b, o + 1, none⟩ = some (.int .i64 x.n)
 c2 : w.cell? ⟨b, o + 2, none⟩ = some (.string x.s)
 c3 : w.cell? ⟨b, o + 3, none⟩ = some (.string x.t)
def NdSl (w : World) (B : Nat) (A : Option Addr) (xs : List Nd) : Prop :=
 xs ≠ [] → ∃ b o, A = some ⟨b, o, none⟩ ∧ b < B ∧ ∀ i x, xs[i]? = some x → NdAt w b (o + i * 4) x
theorem NdAt.keep {w w' : World} {b o B : Nat} {x : Nd} (h : NdAt w b o x) (hb : b < B) (hk : ∀ p : Addr, p.block < B → w'.cell? p = w.cell? p) : NdAt w' b o x :=
 ⟨(hk _ hb).trans h.c0, (hk _ hb).trans h.c1, (hk _ hb).trans h.c2, (hk _ hb).trans h.c3⟩
theorem NdSl.keep {w w' : World} {B : Nat} {A : Option Addr} {xs : List Nd} (h : NdSl w B A xs) (hk : ∀ p : Addr, p.block < B → w'.cell? p = w.cell? p) : NdSl w' B A xs := fun hne => by
 obtain ⟨b, o, e, hb, hc⟩ := h hne
 exact ⟨b, o, e, hb, fun i x hx => (hc i x hx).keep hb hk⟩
theorem NdSl.below {w w' : World} {B : Nat} {A : Option Addr} {xs : List Nd} (h : NdSl w B A xs) (hb : Below B w w') : NdSl w' B A xs := h.keep fun _ hp => hb.cell hp
theorem NdSl.more {w : World} {B B' : Nat} {A : Option Addr} {xs : List Nd} (h : NdSl w B A xs) (hB : B ≤ B') : NdSl w B' A xs := fun hne => by
 obtain ⟨b, o, e, hb, hc⟩ := h hne
 exact ⟨b, o, e, Nat.lt_of_lt_of_le hb hB, hc⟩
theorem NdSl.nil (w : World) (B : Nat) (A : Option Addr) : NdSl w B A [] := fun h => absurd rfl h
theorem NdSl.at_ {w : World} {B : Nat} {A : Option Addr} {xs : List Nd} (h : NdSl w B A xs) {i : Nat} (hi : i < xs.length) : ∃ b o, A = some ⟨b, o, none⟩ ∧ b < B ∧ ∀ j x, xs[j]? = some x → NdAt w b (o + j * 4) x :=
 h (by intro e; subst e; simp at hi)
def ndsCmp : List Nd → List Nd → Int
 | [], [] => 0
 | [], _ :: _ => -1
 | _ :: _, [] => 1
 | x :: xs, y :: ys => if ndCmp x y = 0 then ndsCmp xs ys else ndCmp x y
def NdOk (e : List Nd) : Prop := ∀ x ∈ e, x.s.size ≤ 140737488351232 ∧ x.t.size ≤ 140737488351232
end Go.Proofs.YtbggbcnfkcadjaaGreatDoor
namespace Go.Proofs.YtbggbcnfkcadjaaGreatDoor
open Go.RowKit
structure Only (B g : Nat) (w w' : World) : Prop where
 os : w'.os = w.os
 tape : w'.tape = w.tape
 output : w'.output = w.output
 size : w.heap.size ≤ w'.heap.size
 block : ∀ k, k < B → k ≠ g → w'.heap[k]? = w.heap[k]?
theorem Only.refl (B g : Nat) (w : World) : Only B g w w := ⟨rfl, rfl, rfl, Nat.le_refl _, fun _ _ _ => rfl⟩
theorem Only.trans {B g : Nat} {a b c : World} (h : Only B g a b) (k : Only B g b c) : Only B g a c :=
 ⟨k.os.trans h.os, k.tape.trans h.tape, k.output.trans h.output, Nat.le_trans h.size k.size, fun i hi hn => (k.block i hi hn).trans (h.block i hi hn)⟩
theorem Only.mono {B B' g : Nat} {w w' : World} (h : Only B g w w') (hB : B' ≤ B) : Only B' g w w' := ⟨h.os, h.tape, h.output, h.size, fun k hk hn => h.block k (Nat.lt_of_lt_of_le hk hB) hn⟩
theorem Only.of_below {B B' g : Nat} {w w' : World} (h : Below B w w') (hB : B' ≤ B) : Only B' g w w' := ⟨h.os, h.tape, h.output, h.size, fun k hk _ => h.block k (Nat.lt_of_lt_of_le hk hB)⟩
theorem Only.below {B B' g : Nat} {w w' : World} (h : Only B g w w') (h1 : B' ≤ B) (h2 : B' ≤ g) : Below B' w w' := ⟨h.os, h.tape, h.output, h.size, fun k hk => h.block k (by omega) (by omega)⟩
theorem Only.drew {B g : Nat} {a w : World} (h : Only B g a w) : Only B g a w.drew := ⟨h.os, h.tape, h.output, h.size, h.block⟩
theorem Only.drewN {B g : Nat} {a w : World} (h : Only B g a w) (n : Nat) : Only B g a (w.drewN n) := ⟨h.os, h.tape, h.output, h.size, h.block⟩
theorem below_drewN {B : Nat} {a w : World} (h : Below B a w) (n : Nat) : Below B a (w.drewN n) := ⟨h.os, h.tape, h.output, h.size, h.block⟩
theorem Only.alloc {B g : Nat} {a w : World} (h : Only B g a w) (hB : B ≤ w.heap.size) (o : Obj) : Only B g a (w.alloc o) :=
 h.trans ⟨rfl, rfl, rfl, by simp, fun k hk _ => Below.heap_alloc _ _ _ (by omega)⟩
theorem Only.setCell {B g : Nat} {a w : World} (h : Only B g a w) {p : Addr} (hp : p.block = g ∨ B ≤ p.block) (u : Value) : Only B g a (w.setCell p u) :=
 h.trans ⟨rfl, rfl, rfl, by simp [World.setCell], fun k hk hn => Below.heap_setCell _ _ _ _ (by rintro rfl; rcases hp with h | h; exact hn h; omega)⟩
theorem Only.cell {B g : Nat} {w w' : World} (h : Only B g w w') {p : Addr} (hp : p.block < B) (hn : p.block ≠ g) : w'.cell? p = w.cell? p := World.cell?_of_block (w := w) (h.block p.block hp hn)
theorem Only.frozen {B g : Nat} {w w' : World} (h : Only B g w w') {p : Addr} (hp : p.block < B) (hn : p.block ≠ g) : w'.frozen? p = w.frozen? p := World.frozen?_of_block (w := w) (h.block p.block hp hn)
def Blk (w : World) (g : Nat) (t : TypeId) (cs : Array Value) : Prop := w.heap[g]? = some (.cells cs t (0, 0))
theorem Blk.lt {w : World} {g : Nat} {t : TypeId} {cs : Array Value} (h : Blk w g t cs) : g < w.heap.size := by
 rcases Nat.lt_or_ge g w.heap.size with hlt | hge
 · exact hlt
 · unfold Blk at h; rw [Array.getElem?_eq_none hge] at h; cases h
theorem Blk.cell {w : World} {g : Nat} {t : TypeId} {cs : Array Value} (h : Blk w g t cs) (i : Nat) : w.cell? ⟨g, i, none⟩ = cs[i]? := by
 unfold Blk at h; simp [World.cell?, h]
theorem Blk.frozen {w : World} {g : Nat} {t : TypeId} {cs : Array Value} (h : Blk w g t cs) (i : Nat) : w.frozen? ⟨g, i, none⟩ = false := by
 unfold Blk at h; simp [World.frozen?, h]
theorem Blk.new (w : World) (t : TypeId) (cs : Array Value) : Blk (w.alloc (.cells cs t)) w.heap.size t cs := by
 show (w.heap.push _)[w.heap.size]? = _; simp
theorem Blk.drewN {w : World} {g : Nat} {t : TypeId} {cs : Array Value} (h : Blk w g t cs) (n : Nat) : Blk (w.drewN n) g t cs := h
theorem Blk.drew {w : World} {g : Nat} {t : TypeId} {cs : Array Value} (h : Blk w g t cs) : Blk w.drew g t cs := h
theorem Blk.alloc {w : World} {g : Nat} {t : TypeId} {cs : Array Value} (h : Blk w g t cs) (o : Obj) : Blk (w.alloc o) g t cs := (Below.heap_alloc w o g h.lt).trans h
theorem Blk.set {w : World} {g : Nat} {t : TypeId} {cs : Array Value} (h : Blk w g t cs) (i : Nat) (u : Value) : Blk (w.setCell ⟨g, i, none⟩ u) g t (cs.setIfInBounds i u) := by
 unfold Blk at h ⊢
 simp [World.setCell, Array.getElem?_modify, h]
theorem Blk.far {w : World} {g : Nat} {t : TypeId} {cs : Array Value} (h : Blk w g t cs) {p : Addr} (hp : g ≠ p.block) (u : Value) : Blk (w.setCell p u) g t cs := (Below.heap_setCell w p u g hp).trans h
theorem Blk.below {w w' : World} {g B : Nat} {t : TypeId} {cs : Array Value} (h : Blk w g t cs) (hb : Below B w w') (hg : g < B) : Blk w' g t cs := (hb.block g hg).trans h
theorem Blk.only {w w' : World} {g g' B : Nat} {t : TypeId} {cs : Array Value} (h : Blk w g t cs) (hb : Only B g' w w') (hg : g < B) (hn : g ≠ g') : Blk w' g t cs := (hb.block g hg hn).trans h
end Go.Proofs.YtbggbcnfkcadjaaGreatDoor
namespace Go.Proofs.YtbggbcnfkcadjaaGreatDoor
open Go.RowKit Go.Sort
end Go.Proofs.YtbggbcnfkcadjaaGreatDoor
namespace Go.Proofs.YtbggbcnfkcadjaaGreatDoor
open Go.RowKit
structure EncOk {α : Type} (enc : α → List Value) (k : Nat) : Prop where
 len : ∀ x, (enc x).length = k
 pos : 0 < k
 one : ∀ x u, u ∈ enc x → u.oneCell' = true
section
variable {α : Type} {enc : α → List Value} {k : Nat}
def flatG (enc : α → List Value) (xs : List α) : List Value := xs.flatMap enc
theorem flatG_len (he : EncOk enc k) (xs : List α) : (flatG enc xs).length = xs.length * k := by
 induction xs with
 | nil => simp [flatG]
 | cons x xs ih => simp only [flatG, List.flatMap_cons, List.length_append, List.length_cons] at ih ⊢; rw [ih, he.len, Nat.add_mul]; omega
theorem flatG_append (xs ys : List α) : flatG enc (xs ++ ys) = flatG enc xs ++ flatG enc ys := by simp [flatG]
theorem flatG_one (x : α) : flatG enc [x] = enc x := by simp [flatG]
theorem flatG_get (he : EncOk enc k) (xs : List α) : ∀ (i r : Nat), r < k → (flatG enc xs)[i * k + r]? = (xs[i]?).bind fun x => (enc x)[r]? := by
 induction xs with
 | nil => intro i r _; simp [flatG]
 | cons x xs ih =>
   intro i r hr
   have hl := he.len x
   simp only [flatG, List.flatMap_cons] at ih ⊢
   cases i with
   | zero => rw [List.getElem?_append_left (by omega)]; simp
   | succ i =>
     have h1 : (i + 1) * k = i * k + k := by rw [Nat.add_mul]; omega
     rw [List.getElem?_append_right (by omega), hl, show (i + 1) * k + r - k = i * k + r from by omega, ih i r hr]
     simp
theorem flatG_cell (he : EncOk enc k) (xs : List α) : ∀ u ∈ flatG enc xs, u.oneCell' = true := by
 intro u hu
 simp only [flatG, List.mem_flatMap] at hu
 obtain ⟨x, _, hx⟩ := hu
 exact he.one x u hx
def AtG (enc : α → List Value) (w : World) (b o : Nat) (x : α) : Prop := ∀ j u, (enc x)[j]? = some u → w.cell? ⟨b, o + j, none⟩ = some u
def SlG (enc : α → List Value) (k : Nat) (w : World) (B : Nat) (A : Option Addr) (xs : List α) : Prop :=
 xs ≠ [] → ∃ b o, A = some ⟨b, o, none⟩ ∧ b < B ∧ ∀ i x, xs[i]? = some x → AtG enc w b (o + i * k) x
theorem AtG.keep {w w' : World} {b o B : Nat} {x : α} (h : AtG enc w b o x) (hb : b < B) (hk : ∀ p : Addr, p.block < B → w'.cell? p = w.cell? p) : AtG enc w' b o x := fun j u hu => (hk _ hb).trans (h j u hu)
theorem SlG.keep {w w' : World} {B : Nat} {A : Option Addr} {xs : List α} (h : SlG enc k w B A xs) (hk : ∀ p : Addr, p.block < B → w'.cell? p = w.cell? p) : SlG enc k w' B A xs := fun hne => by
 obtain ⟨b, o, e, hb, hc⟩ := h hne
 exact ⟨b, o, e, hb, fun i x hx => (hc i x hx).keep hb hk⟩
theorem SlG.below {w w' : World} {B : Nat} {A : Option Addr} {xs : List α} (h : SlG enc k w B A xs) (hb : Below B w w') : SlG enc k w' B A xs := h.keep fun _ hp => hb.cell hp
theorem SlG.more {w : World} {B B' : Nat} {A : Option Addr} {xs : List α} (h : SlG enc k w B A xs) (hB : B ≤ B') : SlG enc k w B' A xs := fun hne => by
 obtain ⟨b, o, e, hb, hc⟩ := h hne
 exact ⟨b, o, e, Nat.lt_of_lt_of_le hb hB, hc⟩
theorem SlG.later {w w' : World} {A : Option Addr} {xs : List α} (h : SlG enc k w w.heap.size A xs) (hb : Below w.heap.size w w') : SlG enc k w' w'.heap.size A xs := (h.below hb).more hb.size
theorem SlG.nil (w : World) (B : Nat) (A : Option Addr) : SlG enc k w B A [] := fun h => absurd rfl h
theorem SlG.at_ {w : World} {B : Nat} {A : Option Addr} {xs : List α} (h : SlG enc k w B A xs) {i : Nat} (hi : i < xs.length) : ∃ b o, A = some ⟨b, o, none⟩ ∧ b < B ∧ ∀ j x, xs[j]? = some x → AtG enc w b (o + j * k) x :=
 h (by intro e; subst e; simp at hi)
theorem add_none (b o j : Nat) : (⟨b, o, none⟩ : Addr).add j = ⟨b, o + j, none⟩ := by
 unfold Addr.add; split
 · subst_vars; rfl
 · rfl
theorem SlG.flat {w : World} {B b o : Nat} {xs : List α} (he : EncOk enc k) (h : SlG enc k w B (some ⟨b, o, none⟩) xs) (j : Nat) (u : Value) (hu : (flatG enc xs)[j]? = some u) : w.cell? ((⟨b, o, none⟩ : Addr).add j) = some u := by
 have hne : xs ≠ [] := by rintro rfl; simp [flatG] at hu
 obtain ⟨b', o', e, _, hc⟩ := h hne
 injection e with e; injection e with e1 e2; subst e1 e2
 rw [add_none]
 obtain ⟨i, r, hr, rfl⟩ : ∃ i r, r < k ∧ j = i * k + r := ⟨j / k, j % k, Nat.mod_lt _ he.pos, by rw [Nat.mul_comm]; exact (Nat.div_add_mod j k).symm⟩
 rw [flatG_get he xs i r hr] at hu
 cases hx : xs[i]? with
 | none => rw [hx] at hu; cases hu
 | some x =>
   rw [hx] at hu
   rw [← Nat.add_assoc]
   exact hc i x hx r u hu
theorem SlG.of_flat (he : EncOk enc k) {w : World} {B g : Nat} {xs : List α} (hg : g < B) (h : ∀ j u, (flatG enc xs)[j]? = some u → w.cell? ⟨g, j, none⟩ = some u) : SlG enc k w B (some ⟨g, 0, none⟩) xs := fun _ =>
 ⟨g, 0, rfl, hg, fun i x hx r u hu => by
   have hr : r < k := by have := (List.getElem?_eq_some_iff.1 hu).1; rw [he.len] at this; exact this
   rw [Nat.zero_add]
   exact h _ _ (by rw [flatG_get he xs i r hr, hx]; exact hu)⟩
theorem own_formG (he : EncOk enc k) {w : World} {base : Nat} {e : TypeId} {v : Value} {n : Nat} {xs : List α} (h : w.ownsRow base e k v n (flatG enc xs)) :
   n = xs.length ∧ ∃ A c, v = .slice A n c ∧ n ≤ c ∧ c ≤ 9223372036854775807 ∧ SlG enc k w w.heap.size A xs := by
 have hn : n = xs.length := by
   have := h.1; rw [flatG_len he] at this
   exact (Nat.eq_of_mul_eq_mul_right he.pos this).symm
 refine ⟨hn, ?_⟩
 rcases h.2 with ⟨hv, h0⟩ | ⟨g, cap, cur, hv, hb, hg, hnc, hcm, hcs, htk⟩
 · subst h0
   have : xs = [] := List.eq_nil_of_length_eq_zero hn.symm
   subst this
   exact ⟨none, 0, hv, Nat.le_refl _, by omega, SlG.nil _ _ _⟩
 · unfold maxLen at hcm
   refine ⟨some ⟨g, 0, none⟩, cap, hv, hnc, hcm, SlG.of_flat he (Array.getElem?_eq_some_iff.1 hg).1 fun j u hu => ?_⟩
   have hj : j < n * k := by have := (List.getElem?_eq_some_iff.1 hu).1; rw [flatG_len he, ← hn] at this; exact this
   subst hv
   exact (h.cellAt j hj).trans hu
theorem own_keep {B n m : Nat} {e : TypeId} {v : Value} {xs : List Value} {w w' : World} (h : w.ownsRow B e m v n xs) (hb : RowKit.Below w.heap.size w w') : w'.ownsRow B e m v n xs :=
 h.kept (row := none) ⟨hb.os, hb.tape, hb.output, hb.size, fun k hk _ => hb.block k hk⟩ (by cases hv : v.ownBlock with | none => exact .inl rfl | some g => exact .inr (by simp))
theorem new_flatG (W : World) (t : TypeId) (x : α) (cs : Array Value) (hcs : cs.toList = enc x) (g : Nat) (hg : g = W.heap.size) (j : Nat) (u : Value) (hu : (flatG enc [x])[j]? = some u) :
   (W.alloc (.cells cs t)).cell? ((⟨g, 0, none⟩ : Addr).add j) = some u := by
 subst hg
 rw [add_none, Nat.zero_add, World.cell?_alloc_new, ← hu, flatG_one, ← hcs, Array.getElem?_toList]
end
end Go.Proofs.YtbggbcnfkcadjaaGreatDoor
namespace Go.Proofs.YtbggbcnfkcadjaaGreatDoor
open Go.RowKit
inductive VTag where
 | one
 | set (c : Nat) (last : Option (List Nd))
 | flds (c : Nat) (last : ByteArray)
def vLate (last : Option (List Nd)) (p : List Nd) : Bool :=
 match last with
 | none => false
 | some l => decide (0 ≤ ndsCmp l p)
def sLate (last s : ByteArray) : Bool := Op.bytesLess s.toList last.toList || s.toList == last.toList
def piece (e : List Nd) (i j : Nat) : List Nd := (e.drop i).take (j - i)
theorem piece_len {e : List Nd} {i j : Nat} (hj : j ≤ e.length) : (piece e i j).length = j - i := by
 unfold piece; rw [List.length_take, List.length_drop]; omega
theorem piece_le (e : List Nd) (i j : Nat) : (piece e i j).length ≤ e.length := by
 unfold piece; rw [List.length_take, List.length_drop]; omega
def vGo (e : List Nd) : Nat → VTag → Nat → Option Nat
 | 0, .one, _ => none
 | 0, .set c _, i => if c = 0 then some i else none
 | 0, .flds c _, i => if c = 0 then some i else none
 | f + 1, .one, i =>
   match e[i]? with
   | none => none
   | some n =>
     if shapedV n = false then none
     else if n.op = 5 then vGo e f (.set n.n.toNat none) (i + 1)
     else if n.op = 6 then vGo e f (.flds n.n.toNat ⟨#[]⟩) (i + 1)
     else if n.op = 7 then none
     else some (i + 1)
 | f + 1, .set c last, i =>
   match c with
   | 0 => some i
   | c + 1 =>
     match vGo e f .one i with
     | none => none
     | some j => if vLate last (piece e i j) = true then none else vGo e f (.set c (some (piece e i j))) j
 | f + 1, .flds c last, i =>
   match c with
   | 0 => some i
   | c + 1 =>
     match e[i]? with
     | none => none
     | some m =>
       if m.op ≠ 7 ∨ shapedV m = false ∨ sLate last m.s = true then none
       else
         match vGo e f .one (i + 1) with
         | none => none
         | some j => vGo e f (.flds c m.s) j
theorem vGo_bound (e : List Nd) : ∀ (f : Nat) (t : VTag) (i j : Nat), vGo e f t i = some j → (i ≤ e.length → j ≤ e.length) ∧ i ≤ j ∧ (t = .one → i < j) := by
 intro f
 induction f with
 | zero =>
   intro t i j h
   cases t with
   | one => simp [vGo] at h
   | set c l => simp only [vGo] at h; split at h <;> simp at h; subst h; exact ⟨id, Nat.le_refl _, fun h => by cases h⟩
   | flds c l => simp only [vGo] at h; split at h <;> simp at h; subst h; exact ⟨id, Nat.le_refl _, fun h => by cases h⟩
 | succ f ih =>
   intro t i j h
   cases t with
   | one =>
     simp only [vGo] at h
     split at h
     · cases h
     · rename_i n hn
       have hi : i < e.length := (List.getElem?_eq_some_iff.1 hn).1
       split at h
       · cases h
       · split at h
         · obtain ⟨h1, h2, _⟩ := ih _ _ _ h; exact ⟨fun _ => h1 hi, by omega, fun _ => by omega⟩
         · split at h
           · obtain ⟨h1, h2, _⟩ := ih _ _ _ h; exact ⟨fun _ => h1 hi, by omega, fun _ => by omega⟩
           · split at h
             · cases h
             · injection h with h; subst h; exact ⟨fun _ => hi, by omega, fun _ => by omega⟩
   | set c l =>
     cases c with
     | zero => simp only [vGo] at h; injection h with h; subst h; exact ⟨id, Nat.le_refl _, fun h => by cases h⟩
     | succ c =>
       simp only [vGo] at h
       split at h
       · cases h
       · rename_i k hk
         obtain ⟨a1, a2, a3⟩ := ih _ _ _ hk
         split at h
         · cases h
         · obtain ⟨h1, h2, _⟩ := ih _ _ _ h; exact ⟨fun q => h1 (a1 q), by omega, fun h => by cases h⟩
   | flds c l =>
     cases c with
     | zero => simp only [vGo] at h; injection h with h; subst h; exact ⟨id, Nat.le_refl _, fun h => by cases h⟩
     | succ c =>
       simp only [vGo] at h
       split at h
       · cases h
       · rename_i n hn
         have hi : i < e.length := (List.getElem?_eq_some_iff.1 hn).1
         split at h
         · cases h
         · split at h
           · cases h
           · rename_i k hk
             obtain ⟨a1, a2, a3⟩ := ih _ _ _ hk
             obtain ⟨h1, h2, _⟩ := ih _ _ _ h; exact ⟨fun _ => h1 (a1 hi), by omega, fun h => by cases h⟩
end Go.Proofs.YtbggbcnfkcadjaaGreatDoor
namespace Go.Proofs.YtbggbcnfkcadjaaGreatDoor
open Go.RowKit
def valErr (e : List Nd) : Int := if 200 < e.length then 4 else if vGo e (2 * e.length) .one 0 = some e.length then 0 else 1
def variableB (l : List UInt8) : Bool :=
 match l with
 | [] => nameErr [] == 0 && !reserved []
 | c :: r => if c = 63 then nameErr r == 0 else nameErr (c :: r) == 0 && !reserved (c :: r)
def shapedT (x : Nd) : Bool :=
 if x.op = 1 ∨ x.op = 2 ∨ x.op = 3 ∨ x.op = 4 then valErr [x] == 0
 else if x.op = 5 ∨ x.op = 6 then decide (0 ≤ x.n) && x.s.toList.isEmpty && x.t.toList.isEmpty
 else if x.op = 8 then x.n == 0 && x.t.toList.isEmpty && variableB x.s.toList
 else if x.op = 7 ∨ x.op = 21 ∨ x.op = 22 ∨ x.op = 24 then x.n == 0 && x.t.toList.isEmpty && nameErr x.s.toList == 0
 else if x.op = 23 then x.n == 0 && x.t.toList.isEmpty && textErr x.s.toList == 0
 else decide (0 < ndParts x) && x.n == 0 && x.s.toList.isEmpty && x.t.toList.isEmpty
theorem extract_one (s : ByteArray) : (s.extract 1 s.size).toList = s.toList.drop 1 := by
 rw [ByteArray.toList_eq, ByteArray.toList_eq, Lib.extract_to_end]
theorem extract_size (s : ByteArray) : (s.extract 1 s.size).size = s.size - 1 := by
 rw [← toList_len, extract_one, List.length_drop, toList_len]
end Go.Proofs.YtbggbcnfkcadjaaGreatDoor
namespace Go.Proofs.YtbggbcnfkcadjaaGreatDoor
open Go.RowKit
inductive BTag where
 | one (fld : Bool)
 | more (c : Nat) (isRec : Bool) (last : ByteArray)
def bGo (e : List Nd) : Nat → BTag → Nat → Option Nat
 | 0, .one _, _ => none
 | 0, .more c _ _, i => if c = 0 then some i else none
 | f + 1, .one fld, i =>
   match e[i]? with
   | none => none
   | some n => if shapedT n = false ∨ (n.op == 7) ≠ fld then none else bGo e f (.more (ndParts n).toNat (n.op == 6) ⟨#[]⟩) (i + 1)
 | f + 1, .more c r last, i =>
   match c with
   | 0 => some i
   | c + 1 =>
     match e[i]? with
     | none => none
     | some m =>
       if r = true ∧ sLate last m.s = true then none
       else
         match bGo e f (.one r) i with
         | none => none
         | some j => bGo e f (.more c r (if r = true then m.s else last)) j
def bVal (v : Option Nat) : Int :=
 match v with
 | none => -1
 | some j => j
theorem bGo_bound (e : List Nd) : ∀ (f : Nat) (t : BTag) (i j : Nat), bGo e f t i = some j → (i ≤ e.length → j ≤ e.length) ∧ i ≤ j ∧ (∀ b, t = .one b → i < j) := by
 intro f
 induction f with
 | zero =>
   intro t i j h
   cases t with
   | one b => simp [bGo] at h
   | more c r l => simp only [bGo] at h; split at h <;> simp at h; subst h; exact ⟨id, Nat.le_refl _, fun _ h => by cases h⟩
 | succ f ih =>
   intro t i j h
   cases t with
   | one b =>
     simp only [bGo] at h
     split at h
     · cases h
     · rename_i n hn
       have hi : i < e.length := (List.getElem?_eq_some_iff.1 hn).1
       split at h
       · cases h
       · obtain ⟨h1, h2, _⟩ := ih _ _ _ h; exact ⟨fun _ => h1 hi, by omega, fun _ _ => by omega⟩
   | more c r l =>
     cases c with
     | zero => simp only [bGo] at h; injection h with h; subst h; exact ⟨id, Nat.le_refl _, fun _ h => by cases h⟩
     | succ c =>
       simp only [bGo] at h
       split at h
       · cases h
       · rename_i n hn
         have hi : i < e.length := (List.getElem?_eq_some_iff.1 hn).1
         split at h
         · cases h
         · split at h
           · cases h
           · rename_i k hk
             obtain ⟨a1, a2, a3⟩ := ih _ _ _ hk
             obtain ⟨h1, h2, _⟩ := ih _ _ _ h; exact ⟨fun _ => h1 (a1 (by omega)), by omega, fun _ h => by cases h⟩
theorem shapedT_parts (x : Nd) (h : shapedT x = true) : 0 ≤ ndParts x := by
 unfold ndParts
 split
 · omega
 · split
   · rename_i h1 h2
     unfold shapedT at h
     rw [if_neg (by omega), if_pos h2] at h
     simp at h; omega
   · split
     · omega
     · split
       · omega
       · split
         · omega
         · rename_i h1 h2 h3 h4 h5
           unfold shapedT at h
           rw [if_neg (by omega), if_neg (by omega), if_neg (by omega), if_neg (by omega), if_neg (by omega)] at h
           unfold ndParts at h
           rw [if_neg (by omega), if_neg (by omega), if_neg (by omega), if_neg (by omega), if_neg (by omega)] at h
           simp at h
def treeErr (e : List Nd) : Int := if 200 < e.length then 4 else if bGo e (2 * e.length) (.one false) 0 = some e.length then 0 else 1
end Go.Proofs.YtbggbcnfkcadjaaGreatDoor
namespace Go.Proofs.YtbggbcnfkcadjaaGreatDoor
open Go.RowKit
theorem bGo_mono (e : List Nd) : ∀ (f : Nat) (t : BTag) (i j : Nat), bGo e f t i = some j → bGo e (f + 1) t i = some j := by
 intro f
 induction f with
 | zero =>
   intro t i j h
   cases t with
   | one b => simp [bGo] at h
   | more c r l => simp only [bGo] at h; split at h <;> simp at h; subst h; rename_i hc; subst hc; simp [bGo]
 | succ f ih =>
   intro t i j h
   cases t with
   | one b =>
     rw [bGo] at h ⊢
     split at h
     · cases h
     · rename_i n hn
       split at h
       · cases h
       · rename_i hc; rw [if_neg hc]; exact ih _ _ _ h
   | more c r l =>
     cases c with
     | zero => simp only [bGo] at h ⊢; exact h
     | succ c =>
       rw [bGo] at h ⊢
       split at h
       · cases h
       · rename_i n hn
         split at h
         · cases h
         · rename_i hc
           rw [if_neg hc]
           split at h
           · cases h
           · rename_i k hk
             rw [ih _ _ _ hk]
             exact ih _ _ _ h
theorem bGo_mono_le (e : List Nd) {f f' : Nat} (hf : f ≤ f') {t : BTag} {i j : Nat} (h : bGo e f t i = some j) : bGo e f' t i = some j := by
 induction f' with
 | zero => obtain rfl : f = 0 := by omega
           exact h
 | succ f' ih =>
   rcases Nat.lt_or_ge f' f with h1 | h1
   · obtain rfl : f = f' + 1 := by omega
     exact h
   · exact bGo_mono e f' t i j (ih h1)
end Go.Proofs.YtbggbcnfkcadjaaGreatDoor
namespace Go.Proofs.YtbggbcnfkcadjaaGreatDoor
open Go.RowKit
def flat (xs : List Nd) : List Value := xs.flatMap Nd.cells
theorem flat_len (xs : List Nd) : (flat xs).length = xs.length * 4 := by
 induction xs with
 | nil => rfl
 | cons x xs ih => simp only [flat, List.flatMap_cons, List.length_append, List.length_cons] at ih ⊢; rw [ih]; simp [Nd.cells]; omega
theorem flat_append (xs ys : List Nd) : flat (xs ++ ys) = flat xs ++ flat ys := by simp [flat]
theorem flat_get (xs : List Nd) : ∀ (i r : Nat), r < 4 → (flat xs)[i * 4 + r]? = (xs[i]?).bind fun x => x.cells[r]? := by
 induction xs with
 | nil => intro i r _; simp [flat]
 | cons x xs ih =>
   intro i r hr
   have hl : x.cells.length = 4 := rfl
   simp only [flat, List.flatMap_cons] at ih ⊢
   cases i with
   | zero => rw [List.getElem?_append_left (by omega)]; simp
   | succ i =>
     rw [List.getElem?_append_right (by omega), hl, show (i + 1) * 4 + r - 4 = i * 4 + r from by omega, ih i r hr]
     simp
theorem NdSl.flat {w : World} {B b o : Nat} {xs : List Nd} (h : NdSl w B (some ⟨b, o, none⟩) xs) (j : Nat) (u : Value) (hu : (Proofs.YtbggbcnfkcadjaaGreatDoor.flat xs)[j]? = some u) : w.cell? ((⟨b, o, none⟩ : Addr).add j) = some u := by
 have hne : xs ≠ [] := by rintro rfl; simp [Proofs.YtbggbcnfkcadjaaGreatDoor.flat] at hu
 obtain ⟨b', o', e, _, hc⟩ := h hne
 injection e with e; injection e with e1 e2; subst e1 e2
 have hadd : (⟨b, o, none⟩ : Addr).add j = ⟨b, o + j, none⟩ := by
   unfold Addr.add; split
   · subst_vars; rfl
   · rfl
 rw [hadd]
 obtain ⟨i, r, hr, rfl⟩ : ∃ i r, r < 4 ∧ j = i * 4 + r := ⟨j / 4, j % 4, by omega, by omega⟩
 rw [flat_get xs i r hr] at hu
 cases hx : xs[i]? with
 | none => rw [hx] at hu; cases hu
 | some x =>
   rw [hx] at hu
   have ha := hc i x hx
   match r, hr, hu with
   | 0, _, hu => simp [Nd.cells] at hu; subst hu; exact ha.c0
   | 1, _, hu => simp [Nd.cells] at hu; subst hu; rw [← Nat.add_assoc]; exact ha.c1
   | 2, _, hu => simp [Nd.cells] at hu; subst hu; rw [← Nat.add_assoc]; exact ha.c2
   | 3, _, hu => simp [Nd.cells] at hu; subst hu; rw [← Nat.add_assoc]; exact ha.c3
theorem NdSl.of_flat {w : World} {B g : Nat} {xs : List Nd} (hg : g < B) (h : ∀ j u, (Proofs.YtbggbcnfkcadjaaGreatDoor.flat xs)[j]? = some u → w.cell? ⟨g, j, none⟩ = some u) : NdSl w B (some ⟨g, 0, none⟩) xs := fun _ =>
 ⟨g, 0, rfl, hg, fun i x hx => by
   have hh : ∀ r u, r < 4 → x.cells[r]? = some u → w.cell? ⟨g, i * 4 + r, none⟩ = some u := fun r u hr hu => h _ _ (by rw [flat_get xs i r hr, hx]; exact hu)
   constructor
   · rw [Nat.zero_add]; exact hh 0 _ (by omega) rfl
   · rw [Nat.zero_add]; exact hh 1 _ (by omega) rfl
   · rw [Nat.zero_add]; exact hh 2 _ (by omega) rfl
   · rw [Nat.zero_add]; exact hh 3 _ (by omega) rfl⟩
theorem own_nodes {w : World} {base : Nat} {e : TypeId} {v : Value} {n : Nat} {xs : List Nd} (h : w.ownsRow base e 4 v n (flat xs)) :
   n = xs.length ∧ ∃ A c, v = .slice A n c ∧ n ≤ c ∧ NdSl w w.heap.size A xs := by
 have hn : n = xs.length := by have := h.1; rw [flat_len] at this; omega
 refine ⟨hn, ?_⟩
 rcases h.2 with ⟨hv, h0⟩ | ⟨g, cap, cur, hv, hb, hg, hnc, hcm, hcs, htk⟩
 · subst h0
   have : xs = [] := List.eq_nil_of_length_eq_zero hn.symm
   subst this
   exact ⟨none, 0, hv, Nat.le_refl _, NdSl.nil _ _ _⟩
 · refine ⟨some ⟨g, 0, none⟩, cap, hv, hnc, NdSl.of_flat (Array.getElem?_eq_some_iff.1 hg).1 fun j u hu => ?_⟩
   have hj : j < n * 4 := by have := (List.getElem?_eq_some_iff.1 hu).1; rw [flat_len] at this; omega
   subst hv
   exact (h.cellAt j hj).trans hu
theorem own_form {w : World} {base : Nat} {e : TypeId} {v : Value} {n : Nat} {xs ys : List Nd} (h : w.ownsRow base e 4 v n (flat xs ++ flat ys)) :
   ∃ A c, v = .slice A n c ∧ n ≤ c ∧ c ≤ 9223372036854775807 ∧ NdSl w w.heap.size A (xs ++ ys) := by
 rw [← flat_append] at h
 obtain ⟨_, A, c, hv, hc, hs⟩ := own_nodes h
 refine ⟨A, c, hv, hc, ?_, hs⟩
 rcases h.2 with ⟨h1, h0⟩ | ⟨g, cap, cur, h1, _, _, _, hm, _⟩
 · rw [hv] at h1; injection h1 with _ _ h1; omega
 · rw [hv] at h1; injection h1 with _ _ h1; unfold maxLen at hm; omega
end Go.Proofs.YtbggbcnfkcadjaaGreatDoor
namespace Go.Proofs.YtbggbcnfkcadjaaGreatDoor
open Go.RowKit
end Go.Proofs.YtbggbcnfkcadjaaGreatDoor
namespace Go.Proofs.YtbggbcnfkcadjaaGreatDoor
open Go.RowKit
end Go.Proofs.YtbggbcnfkcadjaaGreatDoor
namespace Go.Proofs.YtbggbcnfkcadjaaGreatDoor
open Go.RowKit
inductive Ex : BTag → List Nd → Prop where
 | one (n : Nd) (body : List Nd) (fld : Bool) : shapedT n = true → (n.op == 7) = fld → Ex (.more (ndParts n).toNat (n.op == 6) ⟨#[]⟩) body → Ex (.one fld) (n :: body)
 | nil (r : Bool) (l : ByteArray) : Ex (.more 0 r l) []
 | cons (c : Nat) (r : Bool) (l : ByteArray) (m : Nd) (xs ys : List Nd) : (r = true → sLate l m.s = false) → Ex (.one r) (m :: xs) → Ex (.more c r (if r = true then m.s else l)) ys → Ex (.more (c + 1) r l) (m :: xs ++ ys)
theorem piece_self (e : List Nd) (i : Nat) : piece e i i = [] := by simp [piece]
theorem piece_cons {e : List Nd} {i j : Nat} {x : Nd} (hx : e[i]? = some x) (h : i < j) : piece e i j = x :: piece e (i + 1) j := by
 have hi : i < e.length := (List.getElem?_eq_some_iff.1 hx).1
 unfold piece
 rw [List.drop_eq_getElem_cons hi, show j - i = (j - (i + 1)) + 1 from by omega, List.take_succ_cons]
 rw [List.getElem?_eq_getElem hi] at hx; injection hx with hx; rw [hx]
theorem piece_split (e : List Nd) {i k j : Nat} (h1 : i ≤ k) (h2 : k ≤ j) : piece e i j = piece e i k ++ piece e k j := by
 unfold piece
 have : e.drop k = (e.drop i).drop (k - i) := by rw [List.drop_drop]; congr 1; omega
 rw [this, show j - i = (k - i) + (j - k) from by omega, List.take_add]
theorem ex_of_bGo (e : List Nd) : ∀ (f : Nat) (t : BTag) (i j : Nat), bGo e f t i = some j → Ex t (piece e i j) := by
 intro f
 induction f with
 | zero =>
   intro t i j h
   cases t with
   | one b => simp [bGo] at h
   | more c r l => simp only [bGo] at h; split at h <;> simp at h; subst h; rename_i hc; subst hc; rw [piece_self]; exact .nil r l
 | succ f ih =>
   intro t i j h
   cases t with
   | one b =>
     have hij := (bGo_bound e _ _ _ _ h).2.2 b rfl
     rw [bGo] at h
     split at h
     · cases h
     · rename_i n hn
       split at h
       · cases h
       · rename_i hc
         rw [piece_cons hn hij]
         exact .one n _ b (by simpa using (not_or.1 hc).1) (by simpa using (not_or.1 hc).2) (ih _ _ _ h)
   | more c r l =>
     cases c with
     | zero => simp only [bGo] at h; injection h with h; subst h; rw [piece_self]; exact .nil r l
     | succ c =>
       rw [bGo] at h
       split at h
       · cases h
       · rename_i n hn
         split at h
         · cases h
         · rename_i hc
           split at h
           · cases h
           · rename_i k hk
             have h1 := (bGo_bound e _ _ _ _ hk).2.2 r rfl
             have h2 := (bGo_bound e _ _ _ _ h).2.1
             rw [piece_split e (Nat.le_of_lt h1) h2, piece_cons hn h1]
             have hx := ih _ _ _ hk
             rw [piece_cons hn h1] at hx
             exact .cons c r l n _ _ (fun hr => by
               have hc' := not_and.1 hc hr
               simpa using hc') hx (ih _ _ _ h)
theorem bGo_of_ex {t : BTag} {xs : List Nd} (h : Ex t xs) : ∀ (a b : List Nd) (f : Nat), 2 * xs.length + (match t with | .one _ => 0 | .more _ _ _ => 1) ≤ f → bGo (a ++ xs ++ b) f t a.length = some (a.length + xs.length) := by
 induction h with
 | one n body fld hs h7 hb ih =>
   intro a b f hf
   simp only [List.length_cons] at hf
   obtain ⟨f, rfl⟩ : ∃ g, f = g + 1 := ⟨f - 1, by omega⟩
   have hn : (a ++ n :: body ++ b)[a.length]? = some n := by simp
   have h2 := ih (a ++ [n]) b f (by simp only; omega)
   rw [bGo, hn]
   simp only
   rw [if_neg (by simp [hs, h7])]
   simp only [List.append_assoc, List.length_append, List.length_cons, List.length_nil, List.cons_append, List.nil_append] at h2 ⊢
   rw [h2]
   congr 1; omega
 | nil r l =>
   intro a b f hf
   cases f <;> simp [bGo]
 | cons c r l m xs ys hl hx hy ih1 ih2 =>
   intro a b f hf
   simp only [List.length_append, List.length_cons] at hf
   obtain ⟨f, rfl⟩ : ∃ g, f = g + 1 := ⟨f - 1, by omega⟩
   have hn : (a ++ (m :: xs ++ ys) ++ b)[a.length]? = some m := by simp
   have h1 := ih1 a (ys ++ b) f (by simp only [List.length_cons]; omega)
   have h2 := ih2 (a ++ (m :: xs)) b f (by simp only; omega)
   rw [bGo, hn]
   simp only
   rw [if_neg (by
     rintro ⟨hr, hb⟩
     rw [hl hr] at hb; cases hb)]
   simp only [List.append_assoc, List.length_append, List.length_cons, List.cons_append] at h1 h2 ⊢
   rw [h1]
   simp only
   rw [h2]
   congr 1; omega
theorem tree_iff (e : List Nd) : treeErr e = 0 ↔ e.length ≤ 200 ∧ Ex (.one false) e := by
 constructor
 · intro h
   have h' := h
   unfold treeErr at h'
   split at h'
   · cases h'
   · split at h'
     · rename_i h1 h2
       have := ex_of_bGo e _ _ _ _ h2
       rw [show piece e 0 e.length = e from by simp [piece]] at this
       exact ⟨by omega, this⟩
     · cases h'
 · rintro ⟨h1, h2⟩
   have := bGo_of_ex h2 [] [] (2 * e.length) (by simp)
   simp only [List.nil_append, List.append_nil, List.length_nil, Nat.zero_add] at this
   simp [treeErr, this, Nat.not_lt.2 h1]
end Go.Proofs.YtbggbcnfkcadjaaGreatDoor
namespace Go.Proofs.YtbggbcnfkcadjaaGreatDoor
open Go.RowKit
end Go.Proofs.YtbggbcnfkcadjaaGreatDoor
namespace Go.Proofs.YtbggbcnfkcadjaaGreatDoor
open Go.RowKit Go.Sort
def sorted (ss : List (List UInt8)) : List (List UInt8) := ss.mergeSort fun x y => decide (x ≤ y)
end Go.Proofs.YtbggbcnfkcadjaaGreatDoor
namespace Go.Proofs.YtbggbcnfkcadjaaGreatDoor
open Go.RowKit
end Go.Proofs.YtbggbcnfkcadjaaGreatDoor
namespace Go.Proofs.YtbggbcnfkcadjaaGreatDoor
open Go.RowKit Go.Sort
end Go.Proofs.YtbggbcnfkcadjaaGreatDoor
namespace Go.Proofs.YtbggbcnfkcadjaaGreatDoor
open Go.RowKit
end Go.Proofs.YtbggbcnfkcadjaaGreatDoor
namespace Go.Proofs.YtbggbcnfkcadjaaGreatDoor
open Go.RowKit
def errV (k : Int) : Value := if k = 0 then .nilIface else .iface 33 (.int .i64 k)
theorem errV_zero : errV 0 = .nilIface := rfl
theorem errV_pos {k : Int} (h : ¬ k = 0) : errV k = .iface 33 (.int .i64 k) := by simp [errV, h]
theorem err_type : Tryz.prog.underlying 25 = some (.interface (Tryz.prog.methodsAt 25)) := by kernel_rfl
@[go_sem] theorem run_eql_errV (k : Int) (w : World) : (binOp .eql 25 (errV k) .nilIface).run Tryz.prog w = .ok (.bool (k == 0)) w := by
  by_cases h : k = 0
  · subst h; rw [errV_zero, run_eql_nil_nil w _ err_type]; rfl
  · rw [errV_pos h, run_eql_held_nil w _ _ _ err_type]; simp [h]
@[go_sem] theorem run_guard_errV (op : BinOp) (t : TypeId) (x : Operand) (c : Value) (k : Int) (w : World) : (eqGuard op t x (.const c) (errV k) .nilIface).run Tryz.prog w = .ok () w := by
  by_cases h : k = 0
  · subst h; rw [errV_zero]; cases op <;> simp [eqGuard]
  · rw [errV_pos h]; cases op <;> simp [eqGuard]
@[go_sem] theorem run_neq_errV (k : Int) (w : World) : (binOp .neq 25 (errV k) .nilIface).run Tryz.prog w = .ok (.bool (k != 0)) w := by
  by_cases h : k = 0
  · subst h; rw [errV_zero, run_neq_nil_nil w _ err_type]; rfl
  · rw [errV_pos h, run_neq_held_nil w _ _ _ err_type]; simp [h]

set_option maxRecDepth 100000 in
set_option maxHeartbeats 400000 in
theorem name_letter (b : Int) (w : World) :
   Calls Tryz.prog 144 #[.int .u8 b] w fun e w' => e = .returned (.bool (letterI b)) ∧ w = w' := by
 go_enter Tryz.func144, Tryz.ntmps144
 go_wp2
 all_goals (go_ret; exact ⟨ret_bool (by rw [Bool.eq_iff_iff]; simp [letterI]; omega), rfl⟩)
set_option maxRecDepth 100000 in
set_option maxHeartbeats 400000 in
theorem name_digit (b : Int) (w : World) :
   Calls Tryz.prog 145 #[.int .u8 b] w fun e w' => e = .returned (.bool (digitI b)) ∧ w = w' := by
 go_enter Tryz.func145, Tryz.ntmps145
 go_wp2
 all_goals (go_ret; exact ⟨ret_bool (by rw [Bool.eq_iff_iff]; simp [digitI]; omega), rfl⟩)
set_option maxRecDepth 100000 in
set_option maxHeartbeats 400000 in
theorem name_Check (s : ByteArray) (w : World) (hs : s.size ≤ 140737488351232) :
   Calls Tryz.prog 114 #[.string s] w fun e w' => e = .returned (errV (nameErr s.toList)) ∧ Below w.heap.size w w' := by
 obtain ⟨cap, w1, hconv, hcell, hbel⟩ := bytes_conv (P := Tryz.prog) w 9 135 5 s Tryz.underlying9 Tryz.underlying135 Tryz.underlying5
 have HC := Lib.hid hcell
 have HB := Lib.hid hbel
 clear hcell hbel
 by_cases h0 : 0 < s.size
 · have h0' : s.toList.isEmpty = false := toList_ne h0
   obtain ⟨l, hl0⟩ := toList_cons h0
   have HL := Lib.hid hl0
   clear hl0
   by_cases hl : letterI (s[0].toNat : Int) = true
   · go_enter Tryz.func114, Tryz.ntmps114
     go_wp2_with (go_at_call 144; refine (name_letter _ _).mono ?_; rintro e w' ⟨rfl, rfl⟩)
     go_loop [17] (fun i => ∃ k : Nat, k ≤ s.size ∧ i = .int .i64 k ∧ Hid ((s.toList.take k).all nameB = true)) (fun i => s.size - (intOf i).toNat)
     case atStart => exact ⟨0, by omega, rfl, by simp [Hid]⟩
     case round =>
       obtain ⟨k, hk, rfl, HK⟩ := hrel
       by_cases hlt : k < s.size
       · have hc := HC.out k hlt
         have hg := toList_get s k hlt
         have HG := Lib.hid hg
         clear hg
         by_cases h1 : letterI (s[k].toNat : Int) = true
         · go_wp2_with (go_at_call 144; refine (name_letter _ _).mono ?_; rintro e w' ⟨rfl, rfl⟩)
           go_round
           case rel => exact ⟨k + 1, by omega, by go_num, all_take _ _ _ _ HK.out HG.out (by simp [nameB, h1])⟩
           case measure => simp [intOf]; omega
         · by_cases h2 : digitI (s[k].toNat : Int) = true
           · go_wp2_with (first | (go_at_call 144; refine (name_letter _ _).mono ?_; rintro e w' ⟨rfl, rfl⟩) | (go_at_call 145; refine (name_digit _ _).mono ?_; rintro e w' ⟨rfl, rfl⟩))
             go_round
             case rel => exact ⟨k + 1, by omega, by go_num, all_take _ _ _ _ HK.out HG.out (by simp [nameB, h2])⟩
             case measure => simp [intOf]; omega
           · go_wp2_with (first | (go_at_call 144; refine (name_letter _ _).mono ?_; rintro e w' ⟨rfl, rfl⟩) | (go_at_call 145; refine (name_digit _ _).mono ?_; rintro e w' ⟨rfl, rfl⟩))
             go_ret
             have hb := all_bad s.toList nameB k s[k] HG.out (by simp [nameB, h1, h2])
             exact ⟨ret_val (by rw [HL.out] at hb ⊢; simp [nameErr, hl, hb, errV]), HB.out⟩
       · have hks : k = s.size := by omega
         subst hks
         have ha : s.toList.all nameB = true := by have := HK.out; rwa [List.take_of_length_le (by rw [toList_len]; omega)] at this
         have hsz : s.toList.length = s.size := toList_len s
         have HA := Lib.hid ha
         have HZ := Lib.hid hsz
         clear ha hsz
         by_cases h20 : 20 < s.size
         · go_wp2
           go_ret
           have ha := HA.out
           have hz := HZ.out
           exact ⟨ret_val (by rw [HL.out] at ha hz ⊢; simp [nameErr, hl, ha, errV, hz, h20]), HB.out⟩
         · go_wp2
           go_ret
           have ha := HA.out
           have hz := HZ.out
           exact ⟨ret_val (by rw [HL.out] at ha hz ⊢; simp [nameErr, hl, ha, errV, hz, h20]), HB.out⟩
   · go_enter Tryz.func114, Tryz.ntmps114
     go_wp2_with (go_at_call 144; refine (name_letter _ _).mono ?_; rintro e w' ⟨rfl, rfl⟩)
     go_ret
     exact ⟨ret_val (by rw [HL.out]; simp [nameErr, hl, errV]), Below.refl _ _⟩
 · have h0' := toList_nil h0
   have h0'' : s.toList.isEmpty = true := by rw [h0']; rfl
   have HL := Lib.hid h0'
   clear h0'
   go_enter Tryz.func114, Tryz.ntmps114
   go_wp2_with fail
   go_ret
   exact ⟨ret_val (by rw [HL.out]; simp [nameErr, errV]), Below.refl _ _⟩
set_option maxRecDepth 100000 in
set_option maxHeartbeats 400000 in
theorem name_Plain (s : ByteArray) (w : World) (hs : s.size ≤ 140737488351232) :
   Calls Tryz.prog 115 #[.string s] w fun e w' => e = .returned (errV (textErr s.toList)) ∧ Below w.heap.size w w' := by
 obtain ⟨cap, w1, hconv, hcell, hbel⟩ := bytes_conv (P := Tryz.prog) w 9 135 5 s Tryz.underlying9 Tryz.underlying135 Tryz.underlying5
 have HC := Lib.hid hcell
 have HB := Lib.hid hbel
 have HZ := Lib.hid (toList_len s)
 clear hcell hbel
 by_cases h60 : 60 < s.size
 · go_enter Tryz.func115, Tryz.ntmps115
   go_wp2_with fail
   go_ret
   have hz := HZ.out
   exact ⟨ret_val (by simp [textErr, hz, h60, errV]), Below.refl _ _⟩
 · go_enter Tryz.func115, Tryz.ntmps115
   go_wp2_with fail
   go_loop [12] (fun i => ∃ k : Nat, k ≤ s.size ∧ i = .int .i64 k ∧ Hid ((s.toList.take k).all plainB = true)) (fun i => s.size - (intOf i).toNat)
   case atStart => exact ⟨0, by omega, rfl, by simp [Hid]⟩
   case round =>
     obtain ⟨k, hk, rfl, HK⟩ := hrel
     by_cases hlt : k < s.size
     · have hc := HC.out k hlt
       have HG := Lib.hid (toList_get s k hlt)
       by_cases h1 : (s[k].toNat : Int) < 32
       · go_wp2_with fail
         go_ret
         have hb := all_bad s.toList plainB k s[k] HG.out (by simp [plainB]; omega)
         have hz := HZ.out
         exact ⟨ret_val (by simp [textErr, hz, h60, hb, errV]), HB.out⟩
       · by_cases h2 : 126 < (s[k].toNat : Int)
         · go_wp2_with fail
           go_ret
           have hb := all_bad s.toList plainB k s[k] HG.out (by simp [plainB]; omega)
           have hz := HZ.out
           exact ⟨ret_val (by simp [textErr, hz, h60, hb, errV]), HB.out⟩
         · go_wp2_with fail
           go_round
           case rel => exact ⟨k + 1, by omega, by go_num, all_take _ _ _ _ HK.out HG.out (by simp [plainB]; omega)⟩
           case measure => simp [intOf]; omega
     · have hks : k = s.size := by omega
       subst hks
       have HA : Hid (s.toList.all plainB = true) := by have := HK.out; rwa [List.take_of_length_le (by rw [toList_len]; omega)] at this
       go_wp2_with fail
       go_ret
       have ha := HA.out
       have hz := HZ.out
       exact ⟨ret_val (by simp [textErr, hz, h60, ha, errV]), HB.out⟩
end Go.Proofs.YtbggbcnfkcadjaaGreatDoor
