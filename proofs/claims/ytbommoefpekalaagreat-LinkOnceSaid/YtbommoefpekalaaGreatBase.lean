/-
  PLAIN WORDS: nodes as data, names and texts; small lemmas on endings, worlds and bytes. No program in sight.
-/
import Derived.WalkKit
import Derived.WalkSpells
import Derived.WalkLawsBesides
import Derived.Lib.ConvBytes
import Derived.Lib.Hide
import Derived.Lib.Bytealg
namespace Go.Proofs.YtbommoefpekalaaGreat
open Go.RowKit

theorem ret_bool {a b : Bool} (h : a = b) : Ending.returned (.bool a) = .returned (.bool b) := by rw [h]
theorem ret_int {k : IntKind} {a b : Int} (h : a = b) : Ending.returned (.int k a) = .returned (.int k b) := by rw [h]
theorem ret_val {a b : Value} (h : a = b) : Ending.returned a = .returned b := by rw [h]

theorem bcell {W w1 : World} (hb : Below W.heap.size W w1) : (∀ b o, b < W.heap.size → w1.cell? ⟨b, o, none⟩ = W.cell? ⟨b, o, none⟩) ∧ (∀ b o, b < W.heap.size → w1.frozen? ⟨b, o, none⟩ = W.frozen? ⟨b, o, none⟩) :=
  ⟨fun b o h => hb.cell (p := ⟨b, o, none⟩) h, fun b o h => hb.frozen (p := ⟨b, o, none⟩) h⟩
/-- A letter; a digit. -/
def letterI (b : Int) : Bool := (decide (97 ≤ b) && decide (b ≤ 122)) || (decide (65 ≤ b) && decide (b ≤ 90)) || b == 95
def digitI (b : Int) : Bool := decide (48 ≤ b) && decide (b ≤ 57)
def nameB (c : UInt8) : Bool := letterI (c.toNat : Int) || digitI (c.toNat : Int)
def plainB (c : UInt8) : Bool := decide (32 ≤ (c.toNat : Int)) && decide ((c.toNat : Int) ≤ 126)
/-- What is wrong with a name: the number of the error. -/
def nameErr (l : List UInt8) : Int :=
  match l with
  | [] => 1
  | c :: _ => if letterI (c.toNat : Int) = false then 1 else if l.all nameB = false then 1 else if 20 < l.length then 4 else 0
/-- What is wrong with a text. -/
def textErr (l : List UInt8) : Int := if 60 < l.length then 4 else if l.all plainB = false then 1 else 0

theorem toList_len (s : ByteArray) : s.toList.length = s.size := by rw [ByteArray.toList_eq]; exact Array.length_toList
theorem toList_get (s : ByteArray) (j : Nat) (hj : j < s.size) : s.toList[j]? = some s[j] := by
  have hj' : j < s.data.size := hj
  rw [ByteArray.toList_eq, Array.getElem?_toList, Array.getElem?_eq_getElem hj']; rfl
theorem toList_nil {s : ByteArray} (h : ¬ 0 < s.size) : s.toList = [] := by
  apply List.eq_nil_of_length_eq_zero; rw [toList_len]; omega
theorem toList_cons {s : ByteArray} (h : 0 < s.size) : ∃ l, s.toList = s[0] :: l := by
  have h1 := toList_get s 0 h
  cases hd : s.toList with
  | nil => rw [hd] at h1; simp at h1
  | cons a l => rw [hd] at h1; simp at h1; exact ⟨l, by rw [h1]⟩
theorem toList_ne {s : ByteArray} (h : 0 < s.size) : s.toList.isEmpty = false := by
  obtain ⟨l, e⟩ := toList_cons h; rw [e]; rfl
theorem all_take (l : List UInt8) (p : UInt8 → Bool) (k : Nat) (c : UInt8) (h : (l.take k).all p = true) (hc : l[k]? = some c) (hp : p c = true) : (l.take (k + 1)).all p = true := by
  rw [List.take_add_one, hc, List.all_append, h]; simp [hp]
theorem all_bad (l : List UInt8) (p : UInt8 → Bool) (k : Nat) (c : UInt8) (hc : l[k]? = some c) (hp : p c = false) : l.all p = false := by
  rw [List.all_eq_false]; exact ⟨c, List.mem_of_getElem? hc, by simp [hp]⟩

theorem bytes_conv {P : Program} (w : World) (src dst e : TypeId) (s : ByteArray) {u : TypeDesc}
    (hs : P.underlying src = some u) (hd : P.underlying dst = some (.slice e)) (he : P.underlying e = some (.int .u8)) :
    ∃ cap w1, (convert src dst (.string s)).run P w = .ok (.slice (some ⟨w.heap.size, 0, none⟩) s.size cap) w1 ∧
      (∀ j (hj : j < s.size), w1.cell? ⟨w.heap.size, j, none⟩ = some (.int .u8 (s[j].toNat))) ∧ Below w.heap.size w w1 := by
  refine ⟨_, _, Lib.run_convert_string_bytes w src dst e s hs hd he, fun j hj => ?_, ?_⟩
  · rw [Lib.bytesWorld_cell w e s j hj]
    have : s.data.toList.getD j 0 = s[j] := by
      rw [← ByteArray.toList_eq]
      simp only [List.getD, toList_get s j hj]; rfl
    rw [this]
  · exact ⟨rfl, rfl, rfl, by rw [Lib.bytesWorld_size]; omega, fun k hk => Lib.bytesWorld_at_old w e s k hk⟩


/-- A node. -/
structure Nd where
  op : Int
  n : Int
  s : ByteArray
  t : ByteArray
def Nd.cells (x : Nd) : List Value := [.int .i64 x.op, .int .i64 x.n, .string x.s, .string x.t]
/-- How many parts a node has; -1: none of an expression. -/
def ndParts (x : Nd) : Int :=
  if x.op = 1 ∨ x.op = 2 ∨ x.op = 3 ∨ x.op = 4 ∨ x.op = 8 then 0
  else if x.op = 5 ∨ x.op = 6 then x.n
  else if x.op = 7 ∨ x.op = 9 ∨ x.op = 10 ∨ x.op = 21 ∨ x.op = 22 ∨ x.op = 23 ∨ x.op = 24 then 1
  else if x.op = 11 ∨ x.op = 12 ∨ x.op = 14 ∨ x.op = 15 ∨ x.op = 16 ∨ x.op = 17 ∨ x.op = 18 ∨ x.op = 19 ∨ x.op = 20 ∨ x.op = 25 ∨ x.op = 26 ∨ x.op = 27 then 2
  else if x.op = 13 then 3 else -1

/-- A word of the language. -/
def reserved (l : List UInt8) : Bool :=
  l == [105, 102] || l == [116, 104, 101, 110] || l == [101, 108, 115, 101] || l == [116, 114, 117, 101] || l == [102, 97, 108, 115, 101] || l == [105, 110] || l == [104, 97, 115] || l == [108, 105, 107, 101] || l == [105, 115]

theorem reads_len (l : List UInt8) : l.isEmpty = true ↔ l = [] := List.isEmpty_iff
/-- A node of a value: may it be one? -/
def shapedV (x : Nd) : Bool :=
  if x.op = 1 then (x.n == 0 || x.n == 1) && x.s.toList.isEmpty && x.t.toList.isEmpty
  else if x.op = 2 then x.s.toList.isEmpty && x.t.toList.isEmpty
  else if x.op = 3 then x.n == 0 && x.t.toList.isEmpty && textErr x.s.toList == 0
  else if x.op = 4 then x.n == 0 && nameErr x.s.toList == 0 && textErr x.t.toList == 0
  else if x.op = 5 ∨ x.op = 6 then decide (0 ≤ x.n) && x.s.toList.isEmpty && x.t.toList.isEmpty
  else if x.op = 7 then x.n == 0 && x.t.toList.isEmpty && nameErr x.s.toList == 0
  else false

def cmpI (a b : Int) : Int := if a < b then -1 else if b < a then 1 else 0
/-- The first that is not 0. -/
def orI : List Int → Int
  | [] => 0
  | a :: l => if a = 0 then orI l else a
def ndCmp (x y : Nd) : Int := orI [cmpI x.op y.op, cmpI x.n y.n, Lib.compareBytes x.s.data.toList y.s.data.toList, Lib.compareBytes x.t.data.toList y.t.data.toList]

end Go.Proofs.YtbommoefpekalaaGreat
