/-
 ARGUMENTS: strings in a reading; the reach of an argument. ARGUMENTS that are moves, opened.
 PLAIN WORDS: the words of a line, on lists of bytes. No program in sight. PLAIN LAWS: reading a line, word by word; line behind line. PLAIN WORDS: what a text is between quotes. PLAIN WORDS: the spelling of words.
-/
import Derived.Test.YtpheiojmcafolaaGreatDoorSy02
import Derived.Test.YtpheiojmcafolaaGreatDoorSy03
import Derived.Test.YtpheiojmcafolaaGreatDoorSy01
import Derived.Lib.Bytealg
import Derived.Lib.Join
namespace Go.Proofs.YtpheiojmcafolaaGreatDoor
set_option maxRecDepth 100000
open Go.ChangeShapes Go.WideShapes Go.RowKit Go.Deep
def strD {H : Type} (s : ByteArray) : DataW H := .lit (.string s.data.toList)
theorem cells_int : Tryz.prog.cellsOf 3 = 1 := by kernel_rfl
theorem cells_str : Tryz.prog.cellsOf 9 = 1 := by kernel_rfl
section
variable {H : Type}
theorem size_of_weight {s : ByteArray} (h : s.data.toList.length ≤ reachBytes) : s.size ≤ 140737488351232 := by
 rw [← ByteArray.toList_eq, toList_len] at h;simpa only [reachBytes] using h
theorem sized_at {ts : List TypeId} {ds : List (DataW H)} (h : (DataW.weightsEach Tryz.prog ts ds).all (· ≤ reachBytes) = true) {j : Nat} {t : TypeId} {d : DataW H} (ht : ts[j]? = some t) (hd : ds[j]? = some d) : ∀ n, n ∈ d.weights Tryz.prog t → n ≤ reachBytes := fun n hn => by
 have := List.all_eq_true.1 h n (DataW.weights_mem_each ht hd n hn);simpa using this
end
end Go.Proofs.YtpheiojmcafolaaGreatDoor
namespace Go.Proofs.YtpheiojmcafolaaGreatDoor
set_option maxRecDepth 100000
open Go.ChangeShapes Go.WideShapes Go.RowKit Go.Deep
def mvData {H : Type} (m : Mv) : DataW H := .agg [.lit (.int .i64 m.what), strD m.fr, strD m.to_]
theorem cells_move : Tryz.prog.cellsOf 56 = 3 := by kernel_rfl
section
variable {H : Type} {enc : TypeId × Value → H} {W : World}
theorem move_trod {base : Nat} {spare : Nat → Bool} {held : Bool} {n : Nat} {cs : List Value} {y : DataW H × List MemPlace} (h : DataW.trod enc Tryz.prog W base spare held n 56 cs = some y) :
 ∃ m : Mv, cs = [.int .i64 m.what, .string m.fr, .string m.to_] ∧ y.1 = mvData m := by
 obtain ⟨xs, m, _, hy, hlen, hxl, hf⟩ := DataW.trod_struct Tryz.underlying56 h;rw [cells_move] at hlen;match cs, hlen with
 | [c0, c1, c2], _ =>
  match xs, hxl with
  | [y0, y1, y2], _ =>
   have e0 : DataW.trod enc Tryz.prog W base spare held m 3 (([c0, c1, c2].drop 0).take (Tryz.prog.cellsOf 3)) = some y0 := hf 0 _ rfl;have e1 : DataW.trod enc Tryz.prog W base spare held m 9 (([c0, c1, c2].drop 1).take (Tryz.prog.cellsOf 9)) = some y1 := hf 1 _ rfl;have e2 : DataW.trod enc Tryz.prog W base spare held m 9 (([c0, c1, c2].drop 2).take (Tryz.prog.cellsOf 9)) = some y2 := hf 2 _ rfl;simp only [cells_str, cells_int, List.drop_zero, List.drop_succ_cons, List.take_succ_cons, List.take_zero] at e0 e1 e2;obtain ⟨a0, q0, r0, _⟩ := DataW.trod_int Tryz.underlying3 e0;obtain ⟨a1, q1, r1, _⟩ := DataW.trod_string Tryz.underlying9 e1;obtain ⟨a2, q2, r2, _⟩ := DataW.trod_string Tryz.underlying9 e2;simp only [List.cons.injEq, and_true] at q0 q1 q2;subst q0 q1 q2 r0 r1 r2;exact ⟨⟨a0, a1, a2⟩, rfl, by rw [hy]; rfl⟩
theorem open_move {b0 : Nat} {v : Value} {d : DataW H} {p : List MemPlace} (hv : Value.okWide Tryz.prog W .any b0 56 v) (h : DataW.Trod enc Tryz.prog W 0 (fun _ => true) true 56 v d p) :
 ∃ m : Mv, v = .agg #[.int .i64 m.what, .string m.fr, .string m.to_] ∧ d = mvData m := by
 obtain ⟨cs, rfl, hsz⟩ := okWide_struct Tryz.underlying56 hv;obtain ⟨l⟩ := cs;obtain ⟨fuel, hf⟩ := h;obtain ⟨m, h1, h2⟩ := move_trod hf;refine ⟨m, ?_, h2⟩;simp only [Value.cells] at h1;subst h1;rfl
theorem mv_weights {m : Mv} (h : ∀ n, n ∈ (mvData m : DataW H).weights Tryz.prog 56 → n ≤ reachBytes) : MvZ m :=
 ⟨size_of_weight (h _ (by simp [mvData, strD, DataW.weights, Tryz.underlying56, DataW.weightsEach])), size_of_weight (h _ (by simp [mvData, strD, DataW.weights, Tryz.underlying56, DataW.weightsEach]))⟩
theorem move_rec : Tryz.prog.readableRec 56 = true := by kernel_rfl
theorem move_lt : 56 < Tryz.prog.types.size := of_decide_eq_true (by kernel_rfl)
end
end Go.Proofs.YtpheiojmcafolaaGreatDoor
namespace Go.Proofs.YtpheiojmcafolaaGreatDoor
open Go.RowKit
def digB (c : UInt8) : Bool := digitI (c.toNat : Int)
def letB (c : UInt8) : Bool := letterI (c.toNat : Int)
inductive Wd where
 | bad (k : Int)
 | ok (kind : Int) (t : List UInt8) (n : Nat)
def numP (l : List UInt8) : Wd :=
 if 19 < ((l.takeWhile digB).dropWhile (· == 48)).length then .bad 4
 else .ok 2 (if ((l.takeWhile digB).dropWhile (· == 48)) = [] then [48] else (l.takeWhile digB).dropWhile (· == 48)) (l.takeWhile digB).length
def namedP (kind : Int) (l : List UInt8) (x : Nat) : Wd :=
 if nameErr (l.takeWhile nameB) = 0 then .ok kind (l.takeWhile nameB) ((l.takeWhile nameB).length + x) else .bad (nameErr (l.takeWhile nameB))
def quoP : List UInt8 → List UInt8 → Nat → Wd
 | [], _, _ => .bad 1
 | c :: r, acc, n =>
  if c = 34 then (if 60 < acc.length then .bad 4 else .ok 3 acc (n + 1))
  else if c = 92 then
   match r with
   | [] => .bad 1
   | d :: r' => if d = 34 ∨ d = 92 then quoP r' (acc ++ [d]) (n + 2) else .bad 1
  else if plainB c then quoP r (acc ++ [c]) (n + 1) else .bad 1
def sign1 (a : UInt8) : Bool := a == 40 || a == 41 || a == 91 || a == 93 || a == 123 || a == 125 || a == 44 || a == 46 || a == 33 || a == 43 || a == 45 || a == 42
def signP : List UInt8 → List UInt8
 | [] => []
 | a :: r =>
  if sign1 a then [a]
  else if a = 58 then (if r.head? = some 58 then [58, 58] else [58])
  else if a = 60 then (if r.head? = some 61 then [60, 61] else [60])
  else if (a = 61 ∨ a = 38 ∨ a = 124) ∧ r.head? = some a then [a, a]
  else []
def wordP (l : List UInt8) : Wd :=
 match l with
 | [] => .bad 1
 | c :: r =>
  if digB c then numP l
  else if letB c then namedP 1 l 0
  else if c = 34 then quoP r [] 1
  else if c = 63 then namedP 4 r 1
  else if signP l = [] then .bad 1 else .ok 5 (signP l) (signP l).length
structure Tk where
 kind : Int
 s : ByteArray
 at_ : Int
def bsOf (l : List UInt8) : ByteArray := ⟨l.toArray⟩
def lineP : Nat → List UInt8 → Nat → List Tk → List Tk × Nat × Int
 | 0, _, _, acc => (acc, 0, 0)
 | f + 1, l, i, acc =>
  match l with
  | [] => (acc, 0, 0)
  | c :: r =>
   if c = 32 then lineP f r (i + 1) acc
   else match wordP l with
    | .bad k => ([], i, k)
    | .ok kind t n => if acc.length = 300 then ([], i, 4) else lineP f (l.drop n) (i + n) (acc ++ [⟨kind, bsOf t, i⟩])
end Go.Proofs.YtpheiojmcafolaaGreatDoor
namespace Go.Proofs.YtpheiojmcafolaaGreatDoor
open Go.RowKit
def lineR (l : List UInt8) (i : Nat) (acc : List Tk) : List Tk × Nat × Int := lineP l.length l i acc
theorem lineR_blank (r : List UInt8) (i : Nat) (acc : List Tk) : lineR (32 :: r) i acc = lineR r (i + 1) acc := by
 unfold lineR; rw [List.length_cons, lineP, if_pos rfl]
theorem lineR_blanks (acc : List Tk) : ∀ (l : List UInt8) (i : Nat), lineR l i acc = lineR (l.drop (l.takeWhile fun c => (c.toNat : Int) == 32).length) (i + (l.takeWhile fun c => (c.toNat : Int) == 32).length) acc := by
 intro l;induction l with
 | nil => intro i; rfl
 | cons c r ih =>
  intro i;by_cases hc : c = 32
  · subst hc;rw [List.takeWhile_cons_of_pos (by decide), List.length_cons, List.drop_succ_cons, lineR_blank, ih (i + 1)];congr 1; omega
  · rw [List.takeWhile_cons_of_neg (by
     simp only [beq_iff_eq];intro h;exact hc (UInt8.toNat_inj.1 (by have : (32 : UInt8).toNat = 32 := rfl; omega)))]
    rfl
end Go.Proofs.YtpheiojmcafolaaGreatDoor
namespace Go.Proofs.YtpheiojmcafolaaGreatDoor
open Go.RowKit
def escB (b : UInt8) : Bool := b == 34 || b == 92
def esc1 (b : UInt8) : List UInt8 := if escB b then [92, b] else [b]
def escP (l : List UInt8) : List UInt8 := l.flatMap esc1
def escN (l : List UInt8) : Nat := l.countP escB
theorem escP_len (l : List UInt8) : (escP l).length = l.length + escN l := by
 induction l with
 | nil => rfl
 | cons b l ih =>
  simp only [escP, List.flatMap_cons, List.length_append, escN, List.countP_cons, List.length_cons] at ih ⊢;rw [ih];unfold esc1;cases h : escB b <;> simp <;> omega
theorem escP_snoc (l : List UInt8) (b : UInt8) : escP (l ++ [b]) = escP l ++ esc1 b := by simp [escP]
theorem escN_snoc (l : List UInt8) (b : UInt8) : escN (l ++ [b]) = escN l + if escB b then 1 else 0 := by
 simp [escN, List.countP_append, List.countP_cons]
theorem escN_zero (l : List UInt8) (h : escN l = 0) : escP l = l := by
 induction l with
 | nil => rfl
 | cons b l ih =>
  simp only [escN, List.countP_cons] at h ih;have hb : escB b = false := by cases hq : escB b <;> simp [hq] at h ⊢
  show esc1 b ++ escP l = _;rw [ih (by omega), esc1, if_neg (by simp [hb])]; rfl
theorem escN_count (l : List UInt8) : Lib.countByte l 34 + Lib.countByte l 92 = escN l := by
 unfold Lib.countByte escN;induction l with
 | nil => rfl
 | cons b l ih =>
  simp only [List.count_cons, List.countP_cons, escB];by_cases h1 : b = 34
  · subst h1; simp; omega
  · by_cases h2 : b = 92
    · subst h2; simp; omega
    · simp [h1, h2]; exact ih
theorem escN_le (l : List UInt8) : escN l ≤ l.length := List.countP_le_length
theorem escB_yes (b : UInt8) : escB b = true ↔ (b.toNat = 34 ∨ b.toNat = 92) := by
 simp only [escB, Bool.or_eq_true, beq_iff_eq];constructor
 · rintro (h | h) <;> subst h <;> simp
 · rintro (h | h)
   · exact .inl (UInt8.toNat_inj.1 (by rw [h]; rfl))
   · exact .inr (UInt8.toNat_inj.1 (by rw [h]; rfl))
theorem escP_take (l : List UInt8) (k : Nat) : (escP (l.take k)).length ≤ l.length + escN l := by
 rw [← escP_len];have h : escP l = escP (l.take k) ++ escP (l.drop k) := by unfold escP; rw [← List.flatMap_append, List.take_append_drop]
 rw [h, List.length_append]; omega
def byC (l : List UInt8) : List Value := l.map fun b => .int .u8 (b.toNat : Int)
theorem byC_append (a b : List UInt8) : byC (a ++ b) = byC a ++ byC b := by simp [byC]
theorem byC_len (a : List UInt8) : (byC a).length = a.length := by simp [byC]
end Go.Proofs.YtpheiojmcafolaaGreatDoor
namespace Go.Proofs.YtpheiojmcafolaaGreatDoor
open Go.RowKit
def quoteV (l : List UInt8) : List UInt8 := if textErr l = 0 then 34 :: (escP l ++ [34]) else []
theorem escP_bound (l : List UInt8) : (escP l).length ≤ 2 * l.length := by have := escP_len l; have := escN_le l; omega
theorem quoteV_len (l : List UInt8) : (quoteV l).length ≤ 122 := by
 unfold quoteV;split
 · rename_i h;unfold textErr at h;split at h
   · cases h
   · have := escP_bound l;simp only [List.length_cons, List.length_append, List.length_nil]; omega
 · simp
end Go.Proofs.YtpheiojmcafolaaGreatDoor
