/-
  PLAIN WORDS: values: what the reader of nodes does, in lists.
  PLAIN WORDS: expressions: what package tree computes, in lists.
  PLAIN WORDS: where an expression ends.
  PLAIN WORDS: what Skip computes is where the expression ends; of a whole expression each node begins one.
  PLAIN WORDS: a slice of nodes, cell by cell; rows of nodes that a call makes.
  PLAIN WORDS: an expression put for a name.
  PLAIN LAWS for TreeSizes.
  PLAIN LAWS: an expression as a relation; what is put at a name leaves an expression.
  PLAIN LAWS for TreeGone, TreeTwice, TreeValues.
  PLAIN WORDS: rising lists of texts.
  PLAIN WORDS: the names of an expression, rising, each once.
  PLAIN LAWS: the names of an expression, each time the least that is greater than the last one.
  PLAIN WORDS: policies: what is wrong with one.
-/
import Derived.Test.YtnhcjpmamgdeoaaGreatDoorBase
import Derived.Lib.IndexBytes
import Derived.Laws.OwnMore
import Derived.Sort.OwnSorted
import Derived.Lib.SlicesCompact
import Derived.Lib.RowBridge
namespace Go.Proofs.YtnhcjpmamgdeoaaGreatDoor
open Go.RowKit

/-- What is to be read: one part; so many parts of a set behind the last one; so many fields of a record behind the last name. -/
inductive VTag where
  | one
  | set (c : Nat) (last : Option (List Nd))
  | flds (c : Nat) (last : ByteArray)
/-- Does a part not stand behind the last one? -/
def vLate (last : Option (List Nd)) (p : List Nd) : Bool :=
  match last with
  | none => false
  | some l => decide (0 ≤ ndsCmp l p)
/-- Is a name not behind the last one? -/
def sLate (last s : ByteArray) : Bool := Op.bytesLess s.toList last.toList || s.toList == last.toList
def piece (e : List Nd) (i j : Nat) : List Nd := (e.drop i).take (j - i)
theorem piece_len {e : List Nd} {i j : Nat} (hj : j ≤ e.length) : (piece e i j).length = j - i := by
  unfold piece; rw [List.length_take, List.length_drop]; omega
theorem piece_le (e : List Nd) (i j : Nat) : (piece e i j).length ≤ e.length := by
  unfold piece; rw [List.length_take, List.length_drop]; omega
/-- The place behind what begins at one. -/
def vGo (e : List Nd) : Nat → VTag → Nat → Option Nat
  | 0, .one, _ => none
  | 0, .set c _, i => if c = 0 then some i else none
  | 0, .flds c _, i => if c = 0 then some i else none
  | f + 1, .one, i =>
    match e[i]? with
    | none => none
    | some n =>
      if shapedV n = false then none
      else if n.op = 5 then vGo e f (.set n.n.toNat none) (i + 1)
      else if n.op = 6 then vGo e f (.flds n.n.toNat ⟨#[]⟩) (i + 1)
      else if n.op = 7 then none
      else some (i + 1)
  | f + 1, .set c last, i =>
    match c with
    | 0 => some i
    | c + 1 =>
      match vGo e f .one i with
      | none => none
      | some j => if vLate last (piece e i j) = true then none else vGo e f (.set c (some (piece e i j))) j
  | f + 1, .flds c last, i =>
    match c with
    | 0 => some i
    | c + 1 =>
      match e[i]? with
      | none => none
      | some m =>
        if m.op ≠ 7 ∨ shapedV m = false ∨ sLate last m.s = true then none
        else
          match vGo e f .one (i + 1) with
          | none => none
          | some j => vGo e f (.flds c m.s) j

theorem vGo_bound (e : List Nd) : ∀ (f : Nat) (t : VTag) (i j : Nat), vGo e f t i = some j → (i ≤ e.length → j ≤ e.length) ∧ i ≤ j ∧ (t = .one → i < j) := by
  intro f
  induction f with
  | zero =>
    intro t i j h
    cases t with
    | one => simp [vGo] at h
    | set c l => simp only [vGo] at h; split at h <;> simp at h; subst h; exact ⟨id, Nat.le_refl _, fun h => by cases h⟩
    | flds c l => simp only [vGo] at h; split at h <;> simp at h; subst h; exact ⟨id, Nat.le_refl _, fun h => by cases h⟩
  | succ f ih =>
    intro t i j h
    cases t with
    | one =>
      simp only [vGo] at h
      split at h
      · cases h
      · rename_i n hn
        have hi : i < e.length := (List.getElem?_eq_some_iff.1 hn).1
        split at h
        · cases h
        · split at h
          · obtain ⟨h1, h2, _⟩ := ih _ _ _ h; exact ⟨fun _ => h1 hi, by omega, fun _ => by omega⟩
          · split at h
            · obtain ⟨h1, h2, _⟩ := ih _ _ _ h; exact ⟨fun _ => h1 hi, by omega, fun _ => by omega⟩
            · split at h
              · cases h
              · injection h with h; subst h; exact ⟨fun _ => hi, by omega, fun _ => by omega⟩
    | set c l =>
      cases c with
      | zero => simp only [vGo] at h; injection h with h; subst h; exact ⟨id, Nat.le_refl _, fun h => by cases h⟩
      | succ c =>
        simp only [vGo] at h
        split at h
        · cases h
        · rename_i k hk
          obtain ⟨a1, a2, a3⟩ := ih _ _ _ hk
          split at h
          · cases h
          · obtain ⟨h1, h2, _⟩ := ih _ _ _ h; exact ⟨fun q => h1 (a1 q), by omega, fun h => by cases h⟩
    | flds c l =>
      cases c with
      | zero => simp only [vGo] at h; injection h with h; subst h; exact ⟨id, Nat.le_refl _, fun h => by cases h⟩
      | succ c =>
        simp only [vGo] at h
        split at h
        · cases h
        · rename_i n hn
          have hi : i < e.length := (List.getElem?_eq_some_iff.1 hn).1
          split at h
          · cases h
          · split at h
            · cases h
            · rename_i k hk
              obtain ⟨a1, a2, a3⟩ := ih _ _ _ hk
              obtain ⟨h1, h2, _⟩ := ih _ _ _ h; exact ⟨fun _ => h1 (a1 hi), by omega, fun h => by cases h⟩
end Go.Proofs.YtnhcjpmamgdeoaaGreatDoor
namespace Go.Proofs.YtnhcjpmamgdeoaaGreatDoor
open Go.RowKit

/-- What is wrong with a value: the number of the error. -/
def valErr (e : List Nd) : Int := if 200 < e.length then 4 else if vGo e (2 * e.length) .one 0 = some e.length then 0 else 1
/-- A name that stands for something. -/
def variableB (l : List UInt8) : Bool :=
  match l with
  | [] => nameErr [] == 0 && !reserved []
  | c :: r => if c = 63 then nameErr r == 0 else nameErr (c :: r) == 0 && !reserved (c :: r)
/-- A node of an expression: may it be one? -/
def shapedT (x : Nd) : Bool :=
  if x.op = 1 ∨ x.op = 2 ∨ x.op = 3 ∨ x.op = 4 then valErr [x] == 0
  else if x.op = 5 ∨ x.op = 6 then decide (0 ≤ x.n) && x.s.toList.isEmpty && x.t.toList.isEmpty
  else if x.op = 8 then x.n == 0 && x.t.toList.isEmpty && variableB x.s.toList
  else if x.op = 7 ∨ x.op = 21 ∨ x.op = 22 ∨ x.op = 24 then x.n == 0 && x.t.toList.isEmpty && nameErr x.s.toList == 0
  else if x.op = 23 then x.n == 0 && x.t.toList.isEmpty && textErr x.s.toList == 0
  else decide (0 < ndParts x) && x.n == 0 && x.s.toList.isEmpty && x.t.toList.isEmpty
theorem extract_one (s : ByteArray) : (s.extract 1 s.size).toList = s.toList.drop 1 := by
  rw [ByteArray.toList_eq, ByteArray.toList_eq, Lib.extract_to_end]
theorem extract_size (s : ByteArray) : (s.extract 1 s.size).size = s.size - 1 := by
  rw [← toList_len, extract_one, List.length_drop, toList_len]
end Go.Proofs.YtnhcjpmamgdeoaaGreatDoor
namespace Go.Proofs.YtnhcjpmamgdeoaaGreatDoor
open Go.RowKit

/-- One expression (a Field or not); or so many parts, of a Rec behind the last name or not. -/
inductive BTag where
  | one (fld : Bool)
  | more (c : Nat) (isRec : Bool) (last : ByteArray)
def bGo (e : List Nd) : Nat → BTag → Nat → Option Nat
  | 0, .one _, _ => none
  | 0, .more c _ _, i => if c = 0 then some i else none
  | f + 1, .one fld, i =>
    match e[i]? with
    | none => none
    | some n => if shapedT n = false ∨ (n.op == 7) ≠ fld then none else bGo e f (.more (ndParts n).toNat (n.op == 6) ⟨#[]⟩) (i + 1)
  | f + 1, .more c r last, i =>
    match c with
    | 0 => some i
    | c + 1 =>
      match e[i]? with
      | none => none
      | some m =>
        if r = true ∧ sLate last m.s = true then none
        else
          match bGo e f (.one r) i with
          | none => none
          | some j => bGo e f (.more c r (if r = true then m.s else last)) j
def bVal (v : Option Nat) : Int :=
  match v with
  | none => -1
  | some j => j

theorem bGo_bound (e : List Nd) : ∀ (f : Nat) (t : BTag) (i j : Nat), bGo e f t i = some j → (i ≤ e.length → j ≤ e.length) ∧ i ≤ j ∧ (∀ b, t = .one b → i < j) := by
  intro f
  induction f with
  | zero =>
    intro t i j h
    cases t with
    | one b => simp [bGo] at h
    | more c r l => simp only [bGo] at h; split at h <;> simp at h; subst h; exact ⟨id, Nat.le_refl _, fun _ h => by cases h⟩
  | succ f ih =>
    intro t i j h
    cases t with
    | one b =>
      simp only [bGo] at h
      split at h
      · cases h
      · rename_i n hn
        have hi : i < e.length := (List.getElem?_eq_some_iff.1 hn).1
        split at h
        · cases h
        · obtain ⟨h1, h2, _⟩ := ih _ _ _ h; exact ⟨fun _ => h1 hi, by omega, fun _ _ => by omega⟩
    | more c r l =>
      cases c with
      | zero => simp only [bGo] at h; injection h with h; subst h; exact ⟨id, Nat.le_refl _, fun _ h => by cases h⟩
      | succ c =>
        simp only [bGo] at h
        split at h
        · cases h
        · rename_i n hn
          have hi : i < e.length := (List.getElem?_eq_some_iff.1 hn).1
          split at h
          · cases h
          · split at h
            · cases h
            · rename_i k hk
              obtain ⟨a1, a2, a3⟩ := ih _ _ _ hk
              obtain ⟨h1, h2, _⟩ := ih _ _ _ h; exact ⟨fun _ => h1 (a1 (by omega)), by omega, fun _ h => by cases h⟩
theorem shapedT_parts (x : Nd) (h : shapedT x = true) : 0 ≤ ndParts x := by
  unfold ndParts
  split
  · omega
  · split
    · rename_i h1 h2
      unfold shapedT at h
      rw [if_neg (by omega), if_pos h2] at h
      simp at h; omega
    · split
      · omega
      · split
        · omega
        · split
          · omega
          · rename_i h1 h2 h3 h4 h5
            unfold shapedT at h
            rw [if_neg (by omega), if_neg (by omega), if_neg (by omega), if_neg (by omega), if_neg (by omega)] at h
            unfold ndParts at h
            rw [if_neg (by omega), if_neg (by omega), if_neg (by omega), if_neg (by omega), if_neg (by omega)] at h
            simp at h
/-- What is wrong with an expression. -/
def treeErr (e : List Nd) : Int := if 200 < e.length then 4 else if bGo e (2 * e.length) (.one false) 0 = some e.length then 0 else 1
end Go.Proofs.YtnhcjpmamgdeoaaGreatDoor
namespace Go.Proofs.YtnhcjpmamgdeoaaGreatDoor
open Go.RowKit

/-- Skip: so many are left; the place. -/
def skP : List Nd → Int → Nat → Option Nat
  | [], left, i => if left ≤ 0 then some i else none
  | n :: l, left, i => if left ≤ 0 then some i else skP l (left + ndParts n - 1) (i + 1)
theorem skP_done (l : List Nd) (i : Nat) : skP l 0 i = some i := by cases l <;> simp [skP]
theorem skP_step {e : List Nd} {i : Nat} {n : Nd} (hn : e[i]? = some n) {left : Int} (h : 0 < left) : skP (e.drop i) left i = skP (e.drop (i + 1)) (left + ndParts n - 1) (i + 1) := by
  have hi : i < e.length := (List.getElem?_eq_some_iff.1 hn).1
  rw [List.drop_eq_getElem_cons hi]
  rw [List.getElem?_eq_getElem hi] at hn
  injection hn with hn
  rw [hn, skP, if_neg (by omega)]

theorem bGo_mono (e : List Nd) : ∀ (f : Nat) (t : BTag) (i j : Nat), bGo e f t i = some j → bGo e (f + 1) t i = some j := by
  intro f
  induction f with
  | zero =>
    intro t i j h
    cases t with
    | one b => simp [bGo] at h
    | more c r l => simp only [bGo] at h; split at h <;> simp at h; subst h; rename_i hc; subst hc; simp [bGo]
  | succ f ih =>
    intro t i j h
    cases t with
    | one b =>
      rw [bGo] at h ⊢
      split at h
      · cases h
      · rename_i n hn
        split at h
        · cases h
        · rename_i hc; rw [if_neg hc]; exact ih _ _ _ h
    | more c r l =>
      cases c with
      | zero => simp only [bGo] at h ⊢; exact h
      | succ c =>
        rw [bGo] at h ⊢
        split at h
        · cases h
        · rename_i n hn
          split at h
          · cases h
          · rename_i hc
            rw [if_neg hc]
            split at h
            · cases h
            · rename_i k hk
              rw [ih _ _ _ hk]
              exact ih _ _ _ h
theorem bGo_mono_le (e : List Nd) {f f' : Nat} (hf : f ≤ f') {t : BTag} {i j : Nat} (h : bGo e f t i = some j) : bGo e f' t i = some j := by
  induction f' with
  | zero => obtain rfl : f = 0 := by omega
            exact h
  | succ f' ih =>
    rcases Nat.lt_or_ge f' f with h1 | h1
    · obtain rfl : f = f' + 1 := by omega
      exact h
    · exact bGo_mono e f' t i j (ih h1)

/-- What Skip does with what is an expression. -/
theorem skP_bGo (e : List Nd) : ∀ (f : Nat) (t : BTag) (i j : Nat), bGo e f t i = some j → ∀ k : Int, 0 ≤ k →
    skP (e.drop i) ((match t with | .one _ => 1 | .more c _ _ => (c : Int)) + k) i = skP (e.drop j) k j := by
  intro f
  induction f with
  | zero =>
    intro t i j h k hk
    cases t with
    | one b => simp [bGo] at h
    | more c r l => simp only [bGo] at h; split at h <;> simp at h; subst h; rename_i hc; subst hc; simp
  | succ f ih =>
    intro t i j h k hk
    cases t with
    | one b =>
      rw [bGo] at h
      split at h
      · cases h
      · rename_i n hn
        split at h
        · cases h
        · rename_i hc
          have hp := shapedT_parts n (by simpa using (not_or.1 hc).1)
          rw [skP_step hn (by simp only; omega)]
          have := ih _ _ _ h k hk
          simp only at this ⊢
          rw [show ((ndParts n).toNat : Int) = ndParts n from Int.toNat_of_nonneg hp] at this
          rw [show (1 : Int) + k + ndParts n - 1 = ndParts n + k from by omega]
          exact this
    | more c r l =>
      cases c with
      | zero => simp only [bGo] at h; injection h with h; subst h; simp
      | succ c =>
        rw [bGo] at h
        split at h
        · cases h
        · split at h
          · cases h
          · split at h
            · cases h
            · rename_i m hm
              have h1 := ih _ _ _ hm ((c : Int) + k) (by omega)
              have h2 := ih _ _ _ h k hk
              simp only at h1 h2 ⊢
              rw [show ((c + 1 : Nat) : Int) + k = 1 + ((c : Int) + k) from by omega, h1]
              exact h2

/-- Within an expression each node begins one, that ends within it. -/
theorem bGo_sub (e : List Nd) : ∀ (f : Nat) (t : BTag) (i j : Nat), bGo e f t i = some j → ∀ k x, i ≤ k → k < j → e[k]? = some x →
    ∃ f' r, f' ≤ f ∧ bGo e f' (.one (x.op == 7)) k = some r ∧ r ≤ j := by
  intro f
  induction f with
  | zero =>
    intro t i j h k x h1 h2 _
    cases t with
    | one b => simp [bGo] at h
    | more c r l => simp only [bGo] at h; split at h <;> simp at h; omega
  | succ f ih =>
    intro t i j h k x h1 h2 hx
    cases t with
    | one b =>
      have h0 := h
      rw [bGo] at h
      split at h
      · cases h
      · rename_i n hn
        split at h
        · cases h
        · rename_i hc
          rcases Nat.lt_or_ge i k with hik | hik
          · obtain ⟨f', r, q1, q2, q3⟩ := ih _ _ _ h k x (by omega) h2 hx
            exact ⟨f', r, by omega, q2, q3⟩
          · obtain rfl : i = k := by omega
            rw [hn] at hx
            injection hx with hx
            subst hx
            have : (n.op == 7) = b := by simpa using (not_or.1 hc).2
            rw [this]
            exact ⟨f + 1, j, Nat.le_refl _, h0, Nat.le_refl _⟩
    | more c r l =>
      cases c with
      | zero => simp only [bGo] at h; injection h with h; omega
      | succ c =>
        rw [bGo] at h
        split at h
        · cases h
        · split at h
          · cases h
          · split at h
            · cases h
            · rename_i m hm
              rcases Nat.lt_or_ge k m with hkm | hkm
              · obtain ⟨f', s, q1, q2, q3⟩ := ih _ _ _ hm k x h1 hkm hx
                have := (bGo_bound e _ _ _ _ h).2.1
                exact ⟨f', s, by omega, q2, by omega⟩
              · obtain ⟨f', s, q1, q2, q3⟩ := ih _ _ _ h k x hkm h2 hx
                exact ⟨f', s, by omega, q2, q3⟩
/-- So many parts need so many nodes. -/
theorem bGo_count (e : List Nd) : ∀ (f c : Nat) (r : Bool) (l : ByteArray) (i j : Nat), bGo e f (.more c r l) i = some j → i + c ≤ j := by
  intro f
  induction f with
  | zero => intro c r l i j h; simp only [bGo] at h; split at h <;> simp at h; omega
  | succ f ih =>
    intro c r l i j h
    cases c with
    | zero => simp only [bGo] at h; injection h with h; omega
    | succ c =>
      rw [bGo] at h
      split at h
      · cases h
      · split at h
        · cases h
        · split at h
          · cases h
          · rename_i m hm
            have h1 := (bGo_bound e _ _ _ _ hm).2.2 _ rfl
            have h2 := ih _ _ _ _ _ h
            omega
theorem bGo_parts {e : List Nd} {f i j : Nat} {b : Bool} {x : Nd} (h : bGo e f (.one b) i = some j) (hx : e[i]? = some x) : shapedT x = true ∧ (x.op == 7) = b ∧ 0 ≤ ndParts x ∧ i + 1 + (ndParts x).toNat ≤ j := by
  cases f with
  | zero => simp [bGo] at h
  | succ f =>
    simp only [bGo, hx] at h
    split at h
    · cases h
    · rename_i hc
      have hs : shapedT x = true := by simpa using (not_or.1 hc).1
      exact ⟨hs, by simpa using (not_or.1 hc).2, shapedT_parts x hs, bGo_count e _ _ _ _ _ _ h⟩
/-- Of what is a whole expression: at each place what begins there ends. -/
theorem tree_at {e : List Nd} (h : treeErr e = 0) {k : Nat} {x : Nd} (hx : e[k]? = some x) : ∃ r, bGo e (2 * e.length) (.one (x.op == 7)) k = some r ∧ r ≤ e.length := by
  have hk : k < e.length := (List.getElem?_eq_some_iff.1 hx).1
  unfold treeErr at h
  split at h
  · cases h
  · split at h
    · rename_i h1
      obtain ⟨f', r, q1, q2, q3⟩ := bGo_sub e _ _ _ _ h1 k x (by omega) hk hx
      exact ⟨r, bGo_mono_le e q1 q2, q3⟩
    · cases h
theorem tree_len {e : List Nd} (h : treeErr e = 0) : e.length ≤ 200 ∧ 0 < e.length := by
  unfold treeErr at h
  split at h
  · cases h
  · refine ⟨by omega, ?_⟩
    rcases Nat.eq_zero_or_pos e.length with h0 | h0
    · have : e = [] := List.eq_nil_of_length_eq_zero h0
      subst this
      simp [bGo] at h
    · exact h0
end Go.Proofs.YtnhcjpmamgdeoaaGreatDoor
namespace Go.Proofs.YtnhcjpmamgdeoaaGreatDoor
open Go.RowKit

def flat (xs : List Nd) : List Value := xs.flatMap Nd.cells
theorem flat_len (xs : List Nd) : (flat xs).length = xs.length * 4 := by
  induction xs with
  | nil => rfl
  | cons x xs ih => simp only [flat, List.flatMap_cons, List.length_append, List.length_cons] at ih ⊢; rw [ih]; simp [Nd.cells]; omega
theorem flat_append (xs ys : List Nd) : flat (xs ++ ys) = flat xs ++ flat ys := by simp [flat]
theorem flat_one (x : Nd) : flat [x] = [.int .i64 x.op, .int .i64 x.n, .string x.s, .string x.t] := by simp [flat, Nd.cells]
theorem flat_get (xs : List Nd) : ∀ (i r : Nat), r < 4 → (flat xs)[i * 4 + r]? = (xs[i]?).bind fun x => x.cells[r]? := by
  induction xs with
  | nil => intro i r _; simp [flat]
  | cons x xs ih =>
    intro i r hr
    have hl : x.cells.length = 4 := rfl
    simp only [flat, List.flatMap_cons] at ih ⊢
    cases i with
    | zero => rw [List.getElem?_append_left (by omega)]; simp
    | succ i =>
      rw [List.getElem?_append_right (by omega), hl, show (i + 1) * 4 + r - 4 = i * 4 + r from by omega, ih i r hr]
      simp
theorem flat_one_cell (xs : List Nd) : ∀ u ∈ flat xs, u.oneCell' = true := by
  intro u hu
  simp only [flat, List.mem_flatMap] at hu
  obtain ⟨x, _, hx⟩ := hu
  simp only [Nd.cells, List.mem_cons, List.not_mem_nil, or_false] at hx
  rcases hx with rfl | rfl | rfl | rfl <;> rfl
theorem NdSl.flat {w : World} {B b o : Nat} {xs : List Nd} (h : NdSl w B (some ⟨b, o, none⟩) xs) (j : Nat) (u : Value) (hu : (Proofs.YtnhcjpmamgdeoaaGreatDoor.flat xs)[j]? = some u) : w.cell? ((⟨b, o, none⟩ : Addr).add j) = some u := by
  have hne : xs ≠ [] := by rintro rfl; simp [Proofs.YtnhcjpmamgdeoaaGreatDoor.flat] at hu
  obtain ⟨b', o', e, _, hc⟩ := h hne
  injection e with e; injection e with e1 e2; subst e1 e2
  have hadd : (⟨b, o, none⟩ : Addr).add j = ⟨b, o + j, none⟩ := by
    unfold Addr.add; split
    · subst_vars; rfl
    · rfl
  rw [hadd]
  obtain ⟨i, r, hr, rfl⟩ : ∃ i r, r < 4 ∧ j = i * 4 + r := ⟨j / 4, j % 4, by omega, by omega⟩
  rw [flat_get xs i r hr] at hu
  cases hx : xs[i]? with
  | none => rw [hx] at hu; cases hu
  | some x =>
    rw [hx] at hu
    have ha := hc i x hx
    match r, hr, hu with
    | 0, _, hu => simp [Nd.cells] at hu; subst hu; exact ha.c0
    | 1, _, hu => simp [Nd.cells] at hu; subst hu; rw [← Nat.add_assoc]; exact ha.c1
    | 2, _, hu => simp [Nd.cells] at hu; subst hu; rw [← Nat.add_assoc]; exact ha.c2
    | 3, _, hu => simp [Nd.cells] at hu; subst hu; rw [← Nat.add_assoc]; exact ha.c3
theorem NdSl.of_flat {w : World} {B g : Nat} {xs : List Nd} (hg : g < B) (h : ∀ j u, (Proofs.YtnhcjpmamgdeoaaGreatDoor.flat xs)[j]? = some u → w.cell? ⟨g, j, none⟩ = some u) : NdSl w B (some ⟨g, 0, none⟩) xs := fun _ =>
  ⟨g, 0, rfl, hg, fun i x hx => by
    have hh : ∀ r u, r < 4 → x.cells[r]? = some u → w.cell? ⟨g, i * 4 + r, none⟩ = some u := fun r u hr hu => h _ _ (by rw [flat_get xs i r hr, hx]; exact hu)
    constructor
    · rw [Nat.zero_add]; exact hh 0 _ (by omega) rfl
    · rw [Nat.zero_add]; exact hh 1 _ (by omega) rfl
    · rw [Nat.zero_add]; exact hh 2 _ (by omega) rfl
    · rw [Nat.zero_add]; exact hh 3 _ (by omega) rfl⟩
theorem block_of_add (a : Addr) (n : Nat) : (a.add n).block = a.block := by unfold Addr.add; split <;> rfl
theorem NdSl.flat_alloc {w : World} {B b o : Nat} {xs : List Nd} (h : NdSl w B (some ⟨b, o, none⟩) xs) (hB : b < w.heap.size) (O : Obj) (j : Nat) (u : Value) (hu : (Proofs.YtnhcjpmamgdeoaaGreatDoor.flat xs)[j]? = some u) : (w.alloc O).cell? ((⟨b, o, none⟩ : Addr).add j) = some u :=
  (World.cell?_alloc_lt w O _ (by rw [block_of_add]; exact hB)).trans (h.flat j u hu)
/-- A row of nodes of the call's own. -/
theorem own_nodes {w : World} {base : Nat} {e : TypeId} {v : Value} {n : Nat} {xs : List Nd} (h : w.ownsRow base e 4 v n (flat xs)) :
    n = xs.length ∧ ∃ A c, v = .slice A n c ∧ n ≤ c ∧ NdSl w w.heap.size A xs := by
  have hn : n = xs.length := by have := h.1; rw [flat_len] at this; omega
  refine ⟨hn, ?_⟩
  rcases h.2 with ⟨hv, h0⟩ | ⟨g, cap, cur, hv, hb, hg, hnc, hcm, hcs, htk⟩
  · subst h0
    have : xs = [] := List.eq_nil_of_length_eq_zero hn.symm
    subst this
    exact ⟨none, 0, hv, Nat.le_refl _, NdSl.nil _ _ _⟩
  · refine ⟨some ⟨g, 0, none⟩, cap, hv, hnc, NdSl.of_flat (Array.getElem?_eq_some_iff.1 hg).1 fun j u hu => ?_⟩
    have hj : j < n * 4 := by have := (List.getElem?_eq_some_iff.1 hu).1; rw [flat_len] at this; omega
    subst hv
    exact (h.cellAt j hj).trans hu

theorem own_form {w : World} {base : Nat} {e : TypeId} {v : Value} {n : Nat} {xs ys : List Nd} (h : w.ownsRow base e 4 v n (flat xs ++ flat ys)) :
    ∃ A c, v = .slice A n c ∧ n ≤ c ∧ c ≤ 9223372036854775807 ∧ NdSl w w.heap.size A (xs ++ ys) := by
  rw [← flat_append] at h
  obtain ⟨_, A, c, hv, hc, hs⟩ := own_nodes h
  refine ⟨A, c, hv, hc, ?_, hs⟩
  rcases h.2 with ⟨h1, h0⟩ | ⟨g, cap, cur, h1, _, _, _, hm, _⟩
  · rw [hv] at h1; injection h1 with _ _ h1; omega
  · rw [hv] at h1; injection h1 with _ _ h1; unfold maxLen at hm; omega

theorem new_flat (W : World) (t : TypeId) (x : Nd) (g : Nat) (hg : g = W.heap.size) (j : Nat) (u : Value) (hu : (flat [x])[j]? = some u) :
    (W.alloc (.cells #[.int .i64 x.op, .int .i64 x.n, .string x.s, .string x.t] t)).cell? ((⟨g, 0, none⟩ : Addr).add j) = some u := by
  subst hg
  have hadd : (⟨W.heap.size, 0, none⟩ : Addr).add j = ⟨W.heap.size, j, none⟩ := by
    unfold Addr.add; split
    · subst_vars; rfl
    · simp
  rw [hadd, World.cell?_alloc_new, ← hu, flat_one, List.getElem?_toArray]
end Go.Proofs.YtnhcjpmamgdeoaaGreatDoor
namespace Go.Proofs.YtnhcjpmamgdeoaaGreatDoor
open Go.RowKit

def isVar (s : ByteArray) (n : Nd) : Bool := n.op == 8 && n.s.toList == s.toList
/-- The nodes with v at the place of the name s. -/
def putL (e : List Nd) (s : ByteArray) (v : List Nd) : List Nd := e.flatMap fun n => if isVar s n = true then v else [n]
def putV (e : List Nd) (s : ByteArray) (v : List Nd) : List Nd × Int :=
  if treeErr e ≠ 0 then ([], treeErr e) else if treeErr v ≠ 0 then ([], treeErr v) else if 200 < (putL e s v).length then ([], 4) else (putL e s v, 0)
theorem putL_nil (s : ByteArray) (v : List Nd) : putL [] s v = [] := rfl
theorem putL_cons (n : Nd) (e : List Nd) (s : ByteArray) (v : List Nd) : putL (n :: e) s v = (if isVar s n = true then v else [n]) ++ putL e s v := by simp [putL]
theorem putL_append (a b : List Nd) (s : ByteArray) (v : List Nd) : putL (a ++ b) s v = putL a s v ++ putL b s v := by simp [putL]
theorem putL_step {e : List Nd} {k : Nat} {x : Nd} (hx : e[k]? = some x) (s : ByteArray) (v : List Nd) : putL (e.take (k + 1)) s v = putL (e.take k) s v ++ (if isVar s x = true then v else [x]) := by
  rw [List.take_add_one, hx, putL_append]; simp [putL]
theorem putL_take_le (e : List Nd) (k : Nat) (s : ByteArray) (v : List Nd) : (putL (e.take k) s v).length ≤ (putL e s v).length := by
  conv => rhs; rw [← List.take_append_drop k e]
  rw [putL_append, List.length_append]; omega
end Go.Proofs.YtnhcjpmamgdeoaaGreatDoor
namespace Go.Proofs.YtnhcjpmamgdeoaaGreatDoor
open Go.RowKit

/-- What End answers: the place, and the error. -/
def endV (e : List Nd) (i : Int) : Int × Int :=
  if treeErr e ≠ 0 then (0, treeErr e)
  else if i < 0 ∨ (e.length : Int) ≤ i then (0, 3)
  else match e[i.toNat]? with
    | none => (0, 3)
    | some x => if x.op = 7 then (0, 2) else (bVal (bGo e (2 * e.length) (.one false) i.toNat), 0)
theorem endV_at {e : List Nd} (h : treeErr e = 0) {k r f : Nat} (hb : bGo e f (.one false) k = some r) (hf : f ≤ 2 * e.length) : endV e k = ((r : Int), 0) := by
  have hkl : k < e.length := by
    rcases Nat.lt_or_ge k e.length with h | h
    · exact h
    · cases f <;> simp [bGo, List.getElem?_eq_none h] at hb
  have hx : e[k]? = some e[k] := List.getElem?_eq_getElem hkl
  have hp := bGo_parts hb hx
  have h7 : ¬ e[k].op = 7 := by have := hp.2.1; simpa using this
  have hb2 := bGo_mono_le e hf hb
  unfold endV
  rw [if_neg (by simp [h]), if_neg (by omega), show (k : Int).toNat = k from rfl, hx]
  simp only
  rw [if_neg h7, hb2]; rfl
theorem end_zero {e : List Nd} (h : treeErr e = 0) : endV e 0 = ((e.length : Int), 0) := by
  have h' := h
  unfold treeErr at h'
  split at h'
  · cases h'
  · split at h'
    · rename_i hb; exact endV_at h hb (Nat.le_refl _)
    · cases h'
theorem end_two {e : List Nd} (h : treeErr e = 0) {x : Nd} (hx : e[0]? = some x) (h2 : ndParts x = 2) (h6 : ¬ x.op = 6) : ∃ m : Nat, endV e 1 = ((m : Int), 0) ∧ endV e m = ((e.length : Int), 0) := by
  have h' := h
  unfold treeErr at h'
  split at h'
  · cases h'
  · split at h'
    · rename_i _ hb
      have hlen := (tree_len h).2
      obtain ⟨F, hF⟩ : ∃ F, 2 * e.length = F + 1 := ⟨2 * e.length - 1, by omega⟩
      rw [hF] at hb
      simp only [bGo, hx] at hb
      split at hb
      · cases hb
      · rw [h2, show (2 : Int).toNat = 1 + 1 from rfl, show (x.op == 6) = false from by simp [h6]] at hb
        cases F with
        | zero => simp [bGo] at hb
        | succ F =>
          simp only [bGo] at hb
          split at hb
          · cases hb
          · simp only [Bool.false_eq_true, false_and, if_false] at hb
            split at hb
            · cases hb
            · rename_i m hm
              cases F with
              | zero => simp [bGo] at hb
              | succ F =>
                simp only [bGo] at hb
                split at hb
                · cases hb
                · simp only [Bool.false_eq_true, false_and, if_false] at hb
                  split at hb
                  · cases hb
                  · rename_i m2 hm2
                    have : m2 = e.length := by cases F <;> simp [bGo] at hb <;> exact hb
                    subst this
                    exact ⟨m, endV_at h hm (by omega), endV_at h hm2 (by omega)⟩
    · cases h'
theorem put_ok {e v : List Nd} {s : ByteArray} (h : (putV e s v).2 = 0) : treeErr e = 0 ∧ treeErr v = 0 ∧ (putL e s v).length ≤ 200 ∧ (putV e s v).1 = putL e s v := by
  unfold putV at h ⊢
  split at h
  · simp at h; contradiction
  · split at h
    · simp at h; contradiction
    · split at h
      · simp at h
      · rename_i h1 h2 h3
        rw [if_neg h1, if_neg h2, if_neg h3]
        exact ⟨by simpa using h1, by simpa using h2, by omega, rfl⟩
theorem fact_sizes : putV [⟨14, 0, ⟨#[]⟩, ⟨#[]⟩⟩, ⟨8, 0, ⟨#[97]⟩, ⟨#[]⟩⟩, ⟨8, 0, ⟨#[97]⟩, ⟨#[]⟩⟩] ⟨#[97]⟩ [⟨9, 0, ⟨#[]⟩, ⟨#[]⟩⟩, ⟨8, 0, ⟨#[98]⟩, ⟨#[]⟩⟩] =
    ([⟨14, 0, ⟨#[]⟩, ⟨#[]⟩⟩, ⟨9, 0, ⟨#[]⟩, ⟨#[]⟩⟩, ⟨8, 0, ⟨#[98]⟩, ⟨#[]⟩⟩, ⟨9, 0, ⟨#[]⟩, ⟨#[]⟩⟩, ⟨8, 0, ⟨#[98]⟩, ⟨#[]⟩⟩], 0) := by
  simp [putV, putL, isVar, treeErr, bGo, shapedT, ndParts, variableB, nameErr, nameB, letterI, digitI, reserved, ByteArray.toList_mk]
end Go.Proofs.YtnhcjpmamgdeoaaGreatDoor
namespace Go.Proofs.YtnhcjpmamgdeoaaGreatDoor
open Go.RowKit

/-- These nodes are just that: one expression; so many parts behind a last name. -/
inductive Ex : BTag → List Nd → Prop where
  | one (n : Nd) (body : List Nd) (fld : Bool) : shapedT n = true → (n.op == 7) = fld → Ex (.more (ndParts n).toNat (n.op == 6) ⟨#[]⟩) body → Ex (.one fld) (n :: body)
  | nil (r : Bool) (l : ByteArray) : Ex (.more 0 r l) []
  | cons (c : Nat) (r : Bool) (l : ByteArray) (m : Nd) (xs ys : List Nd) : (r = true → sLate l m.s = false) → Ex (.one r) (m :: xs) → Ex (.more c r (if r = true then m.s else l)) ys → Ex (.more (c + 1) r l) (m :: xs ++ ys)

theorem piece_self (e : List Nd) (i : Nat) : piece e i i = [] := by simp [piece]
theorem piece_cons {e : List Nd} {i j : Nat} {x : Nd} (hx : e[i]? = some x) (h : i < j) : piece e i j = x :: piece e (i + 1) j := by
  have hi : i < e.length := (List.getElem?_eq_some_iff.1 hx).1
  unfold piece
  rw [List.drop_eq_getElem_cons hi, show j - i = (j - (i + 1)) + 1 from by omega, List.take_succ_cons]
  rw [List.getElem?_eq_getElem hi] at hx; injection hx with hx; rw [hx]
theorem piece_split (e : List Nd) {i k j : Nat} (h1 : i ≤ k) (h2 : k ≤ j) : piece e i j = piece e i k ++ piece e k j := by
  unfold piece
  have : e.drop k = (e.drop i).drop (k - i) := by rw [List.drop_drop]; congr 1; omega
  rw [this, show j - i = (k - i) + (j - k) from by omega, List.take_add]
theorem ex_of_bGo (e : List Nd) : ∀ (f : Nat) (t : BTag) (i j : Nat), bGo e f t i = some j → Ex t (piece e i j) := by
  intro f
  induction f with
  | zero =>
    intro t i j h
    cases t with
    | one b => simp [bGo] at h
    | more c r l => simp only [bGo] at h; split at h <;> simp at h; subst h; rename_i hc; subst hc; rw [piece_self]; exact .nil r l
  | succ f ih =>
    intro t i j h
    cases t with
    | one b =>
      have hij := (bGo_bound e _ _ _ _ h).2.2 b rfl
      rw [bGo] at h
      split at h
      · cases h
      · rename_i n hn
        split at h
        · cases h
        · rename_i hc
          rw [piece_cons hn hij]
          exact .one n _ b (by simpa using (not_or.1 hc).1) (by simpa using (not_or.1 hc).2) (ih _ _ _ h)
    | more c r l =>
      cases c with
      | zero => simp only [bGo] at h; injection h with h; subst h; rw [piece_self]; exact .nil r l
      | succ c =>
        rw [bGo] at h
        split at h
        · cases h
        · rename_i n hn
          split at h
          · cases h
          · rename_i hc
            split at h
            · cases h
            · rename_i k hk
              have h1 := (bGo_bound e _ _ _ _ hk).2.2 r rfl
              have h2 := (bGo_bound e _ _ _ _ h).2.1
              rw [piece_split e (Nat.le_of_lt h1) h2, piece_cons hn h1]
              have hx := ih _ _ _ hk
              rw [piece_cons hn h1] at hx
              exact .cons c r l n _ _ (fun hr => by
                have hc' := not_and.1 hc hr
                simpa using hc') hx (ih _ _ _ h)
theorem bGo_of_ex {t : BTag} {xs : List Nd} (h : Ex t xs) : ∀ (a b : List Nd) (f : Nat), 2 * xs.length + (match t with | .one _ => 0 | .more _ _ _ => 1) ≤ f → bGo (a ++ xs ++ b) f t a.length = some (a.length + xs.length) := by
  induction h with
  | one n body fld hs h7 hb ih =>
    intro a b f hf
    simp only [List.length_cons] at hf
    obtain ⟨f, rfl⟩ : ∃ g, f = g + 1 := ⟨f - 1, by omega⟩
    have hn : (a ++ n :: body ++ b)[a.length]? = some n := by simp
    have h2 := ih (a ++ [n]) b f (by simp only; omega)
    rw [bGo, hn]
    simp only
    rw [if_neg (by simp [hs, h7])]
    simp only [List.append_assoc, List.length_append, List.length_cons, List.length_nil, List.cons_append, List.nil_append] at h2 ⊢
    rw [h2]
    congr 1; omega
  | nil r l =>
    intro a b f hf
    cases f <;> simp [bGo]
  | cons c r l m xs ys hl hx hy ih1 ih2 =>
    intro a b f hf
    simp only [List.length_append, List.length_cons] at hf
    obtain ⟨f, rfl⟩ : ∃ g, f = g + 1 := ⟨f - 1, by omega⟩
    have hn : (a ++ (m :: xs ++ ys) ++ b)[a.length]? = some m := by simp
    have h1 := ih1 a (ys ++ b) f (by simp only [List.length_cons]; omega)
    have h2 := ih2 (a ++ (m :: xs)) b f (by simp only; omega)
    rw [bGo, hn]
    simp only
    rw [if_neg (by
      rintro ⟨hr, hb⟩
      rw [hl hr] at hb; cases hb)]
    simp only [List.append_assoc, List.length_append, List.length_cons, List.cons_append] at h1 h2 ⊢
    rw [h1]
    simp only
    rw [h2]
    congr 1; omega
theorem tree_iff (e : List Nd) : treeErr e = 0 ↔ e.length ≤ 200 ∧ Ex (.one false) e := by
  constructor
  · intro h
    have h' := h
    unfold treeErr at h'
    split at h'
    · cases h'
    · split at h'
      · rename_i h1 h2
        have := ex_of_bGo e _ _ _ _ h2
        rw [show piece e 0 e.length = e from by simp [piece]] at this
        exact ⟨by omega, this⟩
      · cases h'
  · rintro ⟨h1, h2⟩
    have := bGo_of_ex h2 [] [] (2 * e.length) (by simp)
    simp only [List.nil_append, List.append_nil, List.length_nil, Nat.zero_add] at this
    simp [treeErr, this, Nat.not_lt.2 h1]

/-- What is put at a name leaves an expression. -/
theorem ex_put {t : BTag} {xs : List Nd} (h : Ex t xs) (s : ByteArray) {v : List Nd} (hv : Ex (.one false) v) : Ex t (putL xs s v) ∧ (∀ m ys, xs = m :: ys → t = .one true → ∃ zs, putL xs s v = m :: zs) := by
  induction h with
  | one n body fld hs h7 hb ih =>
    rw [putL_cons]
    by_cases hn : isVar s n = true
    · have h8 : n.op = 8 := by unfold isVar at hn; simp at hn; exact hn.1
      have hf : fld = false := by rw [← h7, h8]; rfl
      subst hf
      have hp : ndParts n = 0 := by simp [ndParts, h8]
      rw [hp] at hb
      cases hb
      rw [if_pos hn, putL_nil, List.append_nil]
      exact ⟨hv, fun m ys _ h => by cases h⟩
    · rw [if_neg hn]
      exact ⟨.one n _ fld hs h7 ih.1, fun m ys h _ => by injection h with h1 h2; subst h1; exact ⟨_, rfl⟩⟩
  | nil r l => exact ⟨.nil r l, fun m ys h => by cases h⟩
  | cons c r l m xs ys hl hx hy ih1 ih2 =>
    refine ⟨?_, fun _ _ _ h => by cases h⟩
    rw [putL_append]
    cases r with
    | true =>
      obtain ⟨zs, hz⟩ := ih1.2 m xs rfl rfl
      have h1 := ih1.1
      rw [hz] at h1 ⊢
      exact .cons c true l m zs _ hl h1 ih2.1
    | false =>
      have h1 := ih1.1
      have hne : putL (m :: xs) s v ≠ [] := by intro h0; rw [h0] at h1; cases h1
      obtain ⟨m', zs, hz⟩ := List.exists_cons_of_ne_nil hne
      rw [hz] at h1 ⊢
      exact .cons c false l m' zs _ (fun h => by cases h) h1 ih2.1
theorem put_tree {e v : List Nd} {s : ByteArray} (he : treeErr e = 0) (hv : treeErr v = 0) (hl : (putL e s v).length ≤ 200) : treeErr (putL e s v) = 0 :=
  (tree_iff _).2 ⟨hl, (ex_put ((tree_iff e).1 he).2 s ((tree_iff v).1 hv).2).1⟩
end Go.Proofs.YtnhcjpmamgdeoaaGreatDoor
namespace Go.Proofs.YtnhcjpmamgdeoaaGreatDoor
open Go.RowKit

/-- The names that stand for something. -/
def varNames (e : List Nd) : List (List UInt8) := (e.filter fun n => n.op == 8).map fun n => n.s.toList
theorem varNames_append (a b : List Nd) : varNames (a ++ b) = varNames a ++ varNames b := by simp [varNames]
theorem varNames_cons (n : Nd) (e : List Nd) : varNames (n :: e) = (if n.op == 8 then [n.s.toList] else []) ++ varNames e := by
  unfold varNames; rw [List.filter_cons]; split <;> simp
theorem putL_absent {e : List Nd} {s : ByteArray} (v : List Nd) (h : s.toList ∉ varNames e) : putL e s v = e := by
  induction e with
  | nil => rfl
  | cons n e ih =>
    rw [varNames_cons, List.mem_append] at h
    have h1 : ¬ isVar s n = true := by
      intro hv
      unfold isVar at hv
      simp at hv
      apply h; left
      rw [if_pos (by simp [hv.1])]; simp [hv.2]
    rw [putL_cons, if_neg h1, ih (fun hh => h (.inr hh))]; rfl
theorem mem_put (e : List Nd) (s : ByteArray) (v : List Nd) (t : List UInt8) : t ∈ varNames (putL e s v) ↔ (t ∈ varNames e ∧ t ≠ s.toList) ∨ (s.toList ∈ varNames e ∧ t ∈ varNames v) := by
  induction e with
  | nil => simp [putL, varNames]
  | cons n e ih =>
    rw [putL_cons, varNames_append, List.mem_append, ih, varNames_cons]
    by_cases hn : isVar s n = true
    · have hh := hn
      unfold isVar at hh
      simp at hh
      rw [if_pos hn]
      simp only [hh.1, BEq.rfl, if_true, List.mem_append, List.mem_singleton, hh.2]
      constructor
      · rintro (h | h | h)
        · exact .inr ⟨.inl trivial, h⟩
        · exact .inl ⟨.inr h.1, h.2⟩
        · exact .inr ⟨.inr h.1, h.2⟩
      · rintro (⟨h1 | h1, h2⟩ | ⟨h1, h2⟩)
        · exact absurd h1 h2
        · exact .inr (.inl ⟨h1, h2⟩)
        · exact .inl h2
    · rw [if_neg hn, varNames_cons]
      by_cases h8 : (n.op == 8) = true
      · have hne : n.s.toList ≠ s.toList := by
          intro he; apply hn; unfold isVar; rw [h8, he]; simp
        simp only [h8, if_true, varNames, List.filter_nil, List.map_nil, List.append_nil, List.mem_append, List.mem_singleton]
        constructor
        · rintro (h | h | h)
          · exact .inl ⟨.inl h, by rw [h]; exact hne⟩
          · exact .inl ⟨.inr h.1, h.2⟩
          · exact .inr ⟨.inr h.1, h.2⟩
        · rintro (⟨h1 | h1, h2⟩ | ⟨h1 | h1, h2⟩)
          · exact .inl h1
          · exact .inr (.inl ⟨h1, h2⟩)
          · exact absurd h1.symm hne
          · exact .inr (.inr ⟨h1, h2⟩)
      · simp [h8, varNames]
/-- One and then the other. -/
theorem put_twice (e v w : List Nd) (s t : ByteArray) (hst : s.toList ≠ t.toList) (hw : s.toList ∉ varNames w) : putL (putL e s v) t w = putL (putL e t w) s (putL v t w) := by
  induction e with
  | nil => rfl
  | cons n e ih =>
    rw [putL_cons, putL_append, ih, putL_cons, putL_append]
    congr 1
    by_cases h1 : isVar s n = true
    · have hh := h1
      unfold isVar at hh
      simp at hh
      have h2 : ¬ isVar t n = true := by
        intro h; unfold isVar at h; simp at h; exact hst (hh.2.symm.trans h.2)
      rw [if_pos h1, if_neg h2, putL_cons, if_pos h1]; simp [putL]
    · rw [if_neg h1]
      by_cases h2 : isVar t n = true
      · rw [if_pos h2, putL_cons, if_pos h2, putL_absent _ hw]; simp [putL]
      · rw [if_neg h2, putL_cons, if_neg h2, putL_cons, if_neg h1]; simp [putL]

/-- A value is an expression, without names. -/
theorem vGo_ex (e : List Nd) : ∀ (f : Nat) (t : VTag) (i j : Nat), vGo e f t i = some j →
    Ex (match t with | .one => .one false | .set c _ => .more c false ⟨#[]⟩ | .flds c l => .more c true l) (piece e i j) ∧ ∀ x ∈ piece e i j, ¬ x.op = 8 := by
  intro f
  induction f with
  | zero =>
    intro t i j h
    cases t with
    | one => simp [vGo] at h
    | set c l => simp only [vGo] at h; split at h <;> simp at h; subst h; rename_i hc; subst hc; rw [piece_self]; exact ⟨.nil _ _, fun x hx => by cases hx⟩
    | flds c l => simp only [vGo] at h; split at h <;> simp at h; subst h; rename_i hc; subst hc; rw [piece_self]; exact ⟨.nil _ _, fun x hx => by cases hx⟩
  | succ f ih =>
    intro t i j h
    have hb := vGo_bound e _ _ _ _ h
    cases t with
    | one =>
      have hij := hb.2.2 rfl
      rw [vGo] at h
      split at h
      · cases h
      · rename_i n hn
        split at h
        · cases h
        · rename_i hsh
          have hsh : shapedV n = true := by simpa using hsh
          rw [piece_cons hn hij]
          split at h
          · rename_i h5
            obtain ⟨h1, h2⟩ := ih _ _ _ h
            have h1' : Ex (.more n.n.toNat false ⟨#[]⟩) (piece e (i + 1) j) := h1
            refine ⟨.one n _ false ?_ (by simp [h5]) ?_, fun x hx => ?_⟩
            · simp [shapedV, h5] at hsh; simp [shapedT, h5, hsh]
            · rw [show ndParts n = n.n from by simp [ndParts, h5], show (n.op == 6) = false from by simp [h5]]; exact h1'
            · rcases List.mem_cons.1 hx with rfl | hx
              · omega
              · exact h2 x hx
          · split at h
            · rename_i h5 h6
              obtain ⟨h1, h2⟩ := ih _ _ _ h
              have h1' : Ex (.more n.n.toNat true ⟨#[]⟩) (piece e (i + 1) j) := h1
              refine ⟨.one n _ false ?_ (by simp [h6]) ?_, fun x hx => ?_⟩
              · simp [shapedV, h6] at hsh; simp [shapedT, h6, hsh]
              · rw [show ndParts n = n.n from by simp [ndParts, h6], show (n.op == 6) = true from by simp [h6]]; exact h1'
              · rcases List.mem_cons.1 hx with rfl | hx
                · omega
                · exact h2 x hx
            · split at h
              · cases h
              · rename_i h5 h6 h7
                injection h with h
                subst h
                rw [piece_self]
                have h14 : n.op = 1 ∨ n.op = 2 ∨ n.op = 3 ∨ n.op = 4 := by
                  unfold shapedV at hsh
                  repeat' split at hsh
                  all_goals first | omega | cases hsh
                have hval : valErr [n] = 0 := by
                  simp [valErr, vGo, hsh, h5, h6, h7]
                refine ⟨.one n _ false ?_ (by simp [h7]) ?_, fun x hx => ?_⟩
                · unfold shapedT; rw [if_pos h14, hval]; rfl
                · rw [show ndParts n = 0 from by unfold ndParts; rw [if_pos (by omega)]]; exact .nil _ _
                · simp only [List.mem_singleton] at hx; subst hx; omega
    | set c l =>
      cases c with
      | zero => simp only [vGo] at h; injection h with h; subst h; rw [piece_self]; exact ⟨.nil _ _, fun x hx => by cases hx⟩
      | succ c =>
        rw [vGo] at h
        split at h
        · cases h
        · rename_i k hk
          split at h
          · cases h
          · obtain ⟨b1, b2, b3⟩ := vGo_bound e _ _ _ _ hk
            obtain ⟨_, b5, _⟩ := vGo_bound e _ _ _ _ h
            obtain ⟨h1, h2⟩ := ih _ _ _ hk
            obtain ⟨h3, h4⟩ := ih _ _ _ h
            have hik := b3 rfl
            rw [piece_split e (Nat.le_of_lt hik) b5]
            have hn : ∃ m, e[i]? = some m := by
              rcases Nat.lt_or_ge i e.length with hh | hh
              · exact ⟨_, List.getElem?_eq_getElem hh⟩
              · cases f <;> simp [vGo, List.getElem?_eq_none hh] at hk
            obtain ⟨m, hm⟩ := hn
            rw [piece_cons hm hik] at h1 h2 ⊢
            exact ⟨.cons c false ⟨#[]⟩ m _ _ (fun h => by cases h) h1 h3, fun x hx => by
              rcases List.mem_append.1 hx with hx | hx
              · exact h2 x hx
              · exact h4 x hx⟩
    | flds c l =>
      cases c with
      | zero => simp only [vGo] at h; injection h with h; subst h; rw [piece_self]; exact ⟨.nil _ _, fun x hx => by cases hx⟩
      | succ c =>
        rw [vGo] at h
        split at h
        · cases h
        · rename_i m hm
          split at h
          · cases h
          · rename_i hc
            split at h
            · cases h
            · rename_i k hk
              obtain ⟨hc1, hc2⟩ := not_or.1 hc
              obtain ⟨hc2, hc3⟩ := not_or.1 hc2
              have hc1 : m.op = 7 := by simpa using hc1
              have hc2 : shapedV m = true := by simpa using hc2
              obtain ⟨b1, b2, b3⟩ := vGo_bound e _ _ _ _ hk
              obtain ⟨_, b5, _⟩ := vGo_bound e _ _ _ _ h
              obtain ⟨h1, h2⟩ := ih _ _ _ hk
              obtain ⟨h3, h4⟩ := ih _ _ _ h
              have hik := b3 rfl
              rw [piece_split e (show i ≤ k by omega) b5, piece_cons hm (by omega)]
              have hf : ∃ q, e[i + 1]? = some q := by
                rcases Nat.lt_or_ge (i + 1) e.length with hh | hh
                · exact ⟨_, List.getElem?_eq_getElem hh⟩
                · cases f <;> simp [vGo, List.getElem?_eq_none hh] at hk
              obtain ⟨q, hq⟩ := hf
              rw [piece_cons hq hik] at h1 h2 ⊢
              have hfield : Ex (.one true) (m :: (q :: piece e (i + 1 + 1) k)) := by
                refine .one m _ true ?_ (by simp [hc1]) ?_
                · simp [shapedV, hc1] at hc2; simp [shapedT, hc1, hc2]
                · rw [show ndParts m = 1 from by simp [ndParts, hc1], show (m.op == 6) = false from by simp [hc1]]
                  have := Ex.cons 0 false ⟨#[]⟩ q _ [] (fun h => by cases h) h1 (.nil _ _)
                  simpa using this
              exact ⟨.cons c true l m _ _ (fun _ => by simpa using hc3) hfield h3, fun x hx => by
                rcases List.mem_append.1 hx with hx | hx
                · rcases List.mem_cons.1 hx with rfl | hx
                  · omega
                  · exact h2 x hx
                · exact h4 x hx⟩
theorem val_tree {e : List Nd} (h : valErr e = 0) : treeErr e = 0 ∧ varNames e = [] := by
  unfold valErr at h
  split at h
  · cases h
  · split at h
    · rename_i h1 h2
      obtain ⟨h3, h4⟩ := vGo_ex e _ _ _ _ h2
      rw [show piece e 0 e.length = e from by simp [piece]] at h3 h4
      refine ⟨(tree_iff e).2 ⟨by omega, h3⟩, ?_⟩
      unfold varNames
      rw [List.map_eq_nil_iff, List.filter_eq_nil_iff]
      intro x hx
      have := h4 x hx
      simpa using this
    · cases h
end Go.Proofs.YtnhcjpmamgdeoaaGreatDoor
namespace Go.Proofs.YtnhcjpmamgdeoaaGreatDoor
open Go.RowKit Go.Sort

/-- The names, rising, each once. -/
def sorted (ss : List (List UInt8)) : List (List UInt8) := ss.mergeSort fun x y => decide (x ≤ y)
theorem sorted_len (ss : List (List UInt8)) : (sorted ss).length = ss.length := List.length_mergeSort _
end Go.Proofs.YtnhcjpmamgdeoaaGreatDoor
namespace Go.Proofs.YtnhcjpmamgdeoaaGreatDoor
open Go.RowKit

def varsL (e : List Nd) : List (List UInt8) := Lib.compact (sorted (varNames e))
def varsR (e : List Nd) : List (List UInt8) := if treeErr e = 0 then varsL e else []
theorem varNames_step {e : List Nd} {k : Nat} {x : Nd} (hx : e[k]? = some x) : varNames (e.take (k + 1)) = varNames (e.take k) ++ (if x.op == 8 then [x.s.toList] else []) := by
  rw [List.take_add_one, hx, varNames_append, Option.toList_some, varNames_cons]
  simp [varNames]
theorem varNames_len (e : List Nd) : (varNames e).length ≤ e.length := by
  unfold varNames; rw [List.length_map]; exact List.length_filter_le _ _
end Go.Proofs.YtnhcjpmamgdeoaaGreatDoor
namespace Go.Proofs.YtnhcjpmamgdeoaaGreatDoor
open Go.RowKit Go.Sort

theorem cmp_neg : ∀ a b : List UInt8, Lib.compareBytes a b < 0 ↔ a < b
  | [], [] => by simp [Lib.compareBytes]
  | [], _ :: _ => by simp [Lib.compareBytes]
  | _ :: _, [] => by simp [Lib.compareBytes]
  | a :: l, b :: l2 => by
    rw [Lib.compareBytes, List.cons_lt_cons_iff, ← cmp_neg l l2]
    by_cases h1 : a < b
    · simp [h1]
    · rw [if_neg h1]
      by_cases h2 : b < a
      · rw [if_pos h2]
        have : ¬ a = b := fun e => by subst e; exact h1 h2
        simp [h1, this]
      · have : a = b := UInt8.le_antisymm (UInt8.not_lt.1 h2) (UInt8.not_lt.1 h1)
        simp [this]
theorem cmp_pos : ∀ a b : List UInt8, 0 < Lib.compareBytes a b ↔ b < a
  | [], [] => by simp [Lib.compareBytes]
  | [], _ :: _ => by simp [Lib.compareBytes]
  | _ :: _, [] => by simp [Lib.compareBytes]
  | a :: l, b :: l2 => by
    rw [Lib.compareBytes, List.cons_lt_cons_iff, ← cmp_pos l l2]
    by_cases h1 : a < b
    · have h2 : ¬ b < a := fun h => UInt8.lt_irrefl a (UInt8.lt_trans h1 h)
      have : ¬ b = a := fun e => by subst e; exact UInt8.lt_irrefl b h1
      simp [h1, h2, this]
    · rw [if_neg h1]
      by_cases h2 : b < a
      · simp [h2]
      · have : b = a := UInt8.le_antisymm (UInt8.not_lt.1 h1) (UInt8.not_lt.1 h2)
        simp [this]

theorem get_compactUpTo (d : Array (List UInt8)) (m : Nat) : ∀ j, j < m → d[j]! ∈ Lib.compactUpTo d m := by
  induction m with
  | zero => intro j hj; omega
  | succ m ih =>
    intro j hj
    rw [Lib.compactUpTo_succ, List.mem_append]
    by_cases hjm : j < m
    · exact .inl (ih j hjm)
    · obtain rfl : j = m := by omega
      by_cases hk : Lib.keeps d j = true
      · right; rw [if_pos hk]; exact List.mem_singleton.2 rfl
      · left
        unfold Lib.keeps at hk
        have h2 : j ≠ 0 ∧ d[j]! = d[j - 1]! := by simpa using hk
        rw [h2.2]
        exact ih _ (by omega)
theorem mem_compact (zs : List (List UInt8)) (t : List UInt8) : t ∈ Lib.compact zs ↔ t ∈ zs := by
  unfold Lib.compact
  constructor
  · intro h
    unfold Lib.compactUpTo at h
    obtain ⟨j, hj, rfl⟩ := List.mem_map.1 h
    have hj := (List.mem_range.1 (List.mem_filter.1 hj).1)
    rw [getElem!_pos _ _ (by simpa using hj)]
    simp
  · intro h
    obtain ⟨j, hj, rfl⟩ := List.getElem_of_mem h
    have := get_compactUpTo zs.toArray zs.length j hj
    rwa [getElem!_pos _ _ (by simpa using hj)] at this
theorem mem_varsL (e : List Nd) (t : List UInt8) : t ∈ varsL e ↔ t ∈ varNames e := by
  unfold varsL
  rw [mem_compact]
  unfold sorted
  rw [List.mem_mergeSort]
/-- The least of some that is greater than a last one; empty: there is none. -/
def nxt (last nx x : List UInt8) : List UInt8 := if 0 < Lib.compareBytes x last ∧ (nx = [] ∨ Lib.compareBytes x nx < 0) then x else nx
def nextOf (ns : List (List UInt8)) (last : List UInt8) : List UInt8 := ns.foldl (nxt last) []
theorem nextOf_step {ns : List (List UInt8)} {k : Nat} {x : List UInt8} (hx : ns[k]? = some x) (last : List UInt8) : nextOf (ns.take (k + 1)) last = nxt last (nextOf (ns.take k) last) x := by
  unfold nextOf
  rw [List.take_add_one, hx, List.foldl_append]; rfl
theorem le_cases {a b : List UInt8} (h : a ≤ b) : a < b ∨ a = b := by
  by_cases hl : a < b
  · exact .inl hl
  · exact .inr (List.le_antisymm h (List.not_lt.1 hl))
theorem not_nil_of_lt {a b : List UInt8} (h : a < b) : b ≠ [] := by rintro rfl; exact List.not_lt_nil _ h
theorem fold_spec (last : List UInt8) : ∀ (ns : List (List UInt8)) (nx : List UInt8), (nx = [] ∨ last < nx) →
    (ns.foldl (nxt last) nx = [] ∧ nx = [] ∧ ∀ x ∈ ns, ¬ last < x) ∨
    (last < ns.foldl (nxt last) nx ∧ (ns.foldl (nxt last) nx = nx ∨ ns.foldl (nxt last) nx ∈ ns) ∧ (nx = [] ∨ ¬ nx < ns.foldl (nxt last) nx) ∧ ∀ x ∈ ns, last < x → ¬ x < ns.foldl (nxt last) nx) := by
  intro ns
  induction ns with
  | nil =>
    intro nx h
    rcases h with rfl | h
    · exact .inl ⟨rfl, rfl, fun x hx => by cases hx⟩
    · exact .inr ⟨h, .inl rfl, .inr (List.lt_irrefl _), fun x hx => by cases hx⟩
  | cons y ns ih =>
    intro nx h
    rw [List.foldl_cons]
    by_cases hc : 0 < Lib.compareBytes y last ∧ (nx = [] ∨ Lib.compareBytes y nx < 0)
    · have hn : nxt last nx y = y := by rw [nxt, if_pos hc]
      rw [hn]
      have hly : last < y := (cmp_pos _ _).1 hc.1
      rcases ih y (.inr hly) with ⟨_, h2, _⟩ | ⟨h1, h2, h3, h4⟩
      · exact absurd h2 (not_nil_of_lt hly)
      · have h3 : ¬ y < ns.foldl (nxt last) y := by
          rcases h3 with h | h
          · exact absurd h (not_nil_of_lt hly)
          · exact h
        refine .inr ⟨h1, .inr ?_, ?_, fun x hx hlx => ?_⟩
        · rcases h2 with h | h
          · rw [h]; exact List.mem_cons_self
          · exact List.mem_cons_of_mem _ h
        · rcases hc.2 with h | h
          · exact .inl h
          · right
            intro hh
            exact h3 (List.lt_trans ((cmp_neg _ _).1 h) hh)
        · rcases List.mem_cons.1 hx with rfl | hx
          · exact h3
          · exact h4 x hx hlx
    · have hn : nxt last nx y = nx := by rw [nxt, if_neg hc]
      rw [hn]
      rcases ih nx h with ⟨h1, h2, h3⟩ | ⟨h1, h2, h3, h4⟩
      · refine .inl ⟨h1, h2, fun x hx => ?_⟩
        rcases List.mem_cons.1 hx with rfl | hx
        · intro hl; exact hc ⟨(cmp_pos _ _).2 hl, .inl h2⟩
        · exact h3 x hx
      · refine .inr ⟨h1, ?_, h3, fun x hx hlx => ?_⟩
        · rcases h2 with h | h
          · exact .inl h
          · exact .inr (List.mem_cons_of_mem _ h)
        · rcases List.mem_cons.1 hx with rfl | hx
          · intro hh
            have hne : ¬ nx = [] := fun e => hc ⟨(cmp_pos _ _).2 hlx, .inl e⟩
            rcases h3 with h | h
            · exact hne h
            · have h5 : ¬ x < nx := fun e => hc ⟨(cmp_pos _ _).2 hlx, .inr ((cmp_neg _ _).2 e)⟩
              rcases List.le_total nx x with h6 | h6
              · exact h (List.lt_of_le_of_lt h6 hh)
              · rcases le_cases h6 with h7 | h7
                · exact h5 h7
                · subst h7; exact h hh
          · exact h4 x hx hlx
theorem nextOf_spec (ns : List (List UInt8)) (last : List UInt8) :
    (nextOf ns last = [] ∧ ∀ x ∈ ns, ¬ last < x) ∨ (last < nextOf ns last ∧ nextOf ns last ∈ ns ∧ ∀ x ∈ ns, last < x → ¬ x < nextOf ns last) := by
  rcases fold_spec last ns [] (.inl rfl) with ⟨h1, _, h3⟩ | ⟨h1, h2, _, h4⟩
  · exact .inl ⟨h1, h3⟩
  · refine .inr ⟨h1, ?_, h4⟩
    rcases h2 with h | h
    · exact absurd h (not_nil_of_lt h1)
    · exact h

theorem sorted_pw (ss : List (List UInt8)) : (sorted ss).Pairwise (· ≤ ·) := by
  unfold sorted
  refine (List.pairwise_mergeSort (le := fun x y => decide (x ≤ y)) (fun a b c h1 h2 => by simpa using List.le_trans (by simpa using h1) (by simpa using h2)) (fun a b => by simpa using List.le_total a b) ss).imp fun h => by simpa using h
/-- What is kept of a rising list rises without a pause. -/
theorem compact_pw (zs : List (List UInt8)) (h : zs.Pairwise (· ≤ ·)) : (Lib.compact zs).Pairwise (· < ·) := by
  unfold Lib.compact
  have hget : ∀ j, j < zs.length → zs.toArray[j]! = zs[j]! := fun j hj => by simp [hj]
  have hle : ∀ i j, i ≤ j → j < zs.length → zs[i]! ≤ zs[j]! := fun i j hij hj => by
    rw [getElem!_pos zs i (by omega), getElem!_pos zs j hj]
    rcases Nat.lt_or_eq_of_le hij with h1 | h1
    · exact List.pairwise_iff_getElem.1 h i j (by omega) hj h1
    · subst h1; exact List.le_refl _
  have key : ∀ m, m ≤ zs.length → (Lib.compactUpTo zs.toArray m).Pairwise (· < ·) ∧ ∀ x ∈ Lib.compactUpTo zs.toArray m, 0 < m → x ≤ zs[m - 1]! := by
    intro m
    induction m with
    | zero => intro _; exact ⟨by simp [Lib.compactUpTo], fun x hx => by simp [Lib.compactUpTo] at hx⟩
    | succ m ih =>
      intro hm
      obtain ⟨h1, h2⟩ := ih (by omega)
      rw [Lib.compactUpTo_succ]
      have hmid : ∀ x ∈ Lib.compactUpTo zs.toArray m, x ≤ zs[m]! := fun x hx => by
        rcases Nat.eq_zero_or_pos m with h0 | h0
        · subst h0; simp [Lib.compactUpTo] at hx
        · exact List.le_trans (h2 x hx h0) (hle _ _ (by omega) (by omega))
      by_cases hk : Lib.keeps zs.toArray m = true
      · rw [if_pos hk, hget m (by omega)]
        refine ⟨List.pairwise_append.2 ⟨h1, List.pairwise_singleton _ _, fun x hx y hy => ?_⟩, fun x hx _ => ?_⟩
        · rw [List.mem_singleton] at hy; subst hy
          have hm0 : 0 < m := by
            rcases Nat.eq_zero_or_pos m with h0 | h0
            · subst h0; simp [Lib.compactUpTo] at hx
            · exact h0
          have hne : zs[m - 1]! ≠ zs[m]! := by
            unfold Lib.keeps at hk
            have : m = 0 ∨ zs.toArray[m]! ≠ zs.toArray[m - 1]! := by simpa using hk
            rcases this with h | h
            · omega
            · rw [hget m (by omega), hget (m - 1) (by omega)] at h; exact Ne.symm h
          have hlt : zs[m - 1]! < zs[m]! := by
            rcases le_cases (hle (m - 1) m (by omega) (by omega)) with h | h
            · exact h
            · exact absurd h hne
          exact List.lt_of_le_of_lt (h2 x hx hm0) hlt
        · rcases List.mem_append.1 hx with hx | hx
          · exact hmid x hx
          · rw [List.mem_singleton] at hx; subst hx; exact List.le_refl _
      · rw [if_neg hk, List.append_nil]
        exact ⟨h1, fun x hx _ => hmid x hx⟩
  exact (key zs.length (Nat.le_refl _)).1
theorem varsL_pw (e : List Nd) : (varsL e).Pairwise (· < ·) := compact_pw _ (sorted_pw _)
theorem varsL_len (e : List Nd) : (varsL e).length ≤ e.length := by
  unfold varsL
  exact Nat.le_trans (Lib.compact_length_le _) (by rw [sorted_len]; exact varNames_len e)
/-- The next one is the next. -/
theorem next_vars {e : List Nd} (hne : ([] : List UInt8) ∉ varNames e) {k : Nat} {last : List UInt8} (hl : last = if k = 0 then [] else (varsL e)[k - 1]?.getD []) (hk : k ≤ (varsL e).length) :
    nextOf (varNames e) last = (varsL e)[k]?.getD [] := by
  have hpw := List.pairwise_iff_getElem.1 (varsL_pw e)
  have hmem := mem_varsL e
  have hlast : ∀ j (hj : j < (varsL e).length), k ≤ j → last < (varsL e)[j] := fun j hj hkj => by
    by_cases h0 : k = 0
    · rw [if_pos h0] at hl; subst hl
      have : (varsL e)[j] ≠ [] := fun h => hne ((hmem _).1 (h ▸ List.getElem_mem hj))
      cases hv : (varsL e)[j] with
      | nil => exact absurd hv this
      | cons a l => exact List.nil_lt_cons _ _
    · rw [if_neg h0, List.getElem?_eq_getElem (by omega)] at hl
      subst hl
      exact hpw (k - 1) j (by omega) hj (by omega)
  have hbelow : ∀ j (hj : j < (varsL e).length), last < (varsL e)[j] → k ≤ j := fun j hj hlj => by
    by_cases h0 : k = 0
    · omega
    · rw [if_neg h0, List.getElem?_eq_getElem (by omega)] at hl
      subst hl
      rcases Nat.lt_or_ge j k with h | h
      · exfalso
        rcases Nat.lt_or_ge j (k - 1) with h2 | h2
        · exact List.lt_irrefl _ (List.lt_trans (hpw j (k - 1) hj (by omega) h2) hlj)
        · have : j = k - 1 := by omega
          subst this
          exact List.lt_irrefl _ hlj
      · exact h
  rcases nextOf_spec (varNames e) last with ⟨h1, h2⟩ | ⟨h1, h2, h3⟩
  · rw [h1]
    rcases Nat.lt_or_ge k (varsL e).length with h | h
    · exact absurd (hlast k h (Nat.le_refl _)) (h2 _ ((hmem _).1 (List.getElem_mem h)))
    · rw [List.getElem?_eq_none h]; rfl
  · obtain ⟨j, hj, hje⟩ := List.getElem_of_mem ((hmem _).2 h2)
    have hkj := hbelow j hj (by rw [hje]; exact h1)
    have hkl : k < (varsL e).length := by omega
    rw [List.getElem?_eq_getElem hkl]
    show _ = (varsL e)[k]
    rcases Nat.lt_or_ge k j with h | h
    · exfalso
      have h4 := hpw k j hkl hj h
      rw [hje] at h4
      exact h3 _ ((hmem _).1 (List.getElem_mem hkl)) (hlast k hkl (Nat.le_refl _)) h4
    · have : j = k := by omega
      subst this; exact hje.symm
theorem ex_vars {t : BTag} {xs : List Nd} (h : Ex t xs) : ([] : List UInt8) ∉ varNames xs := by
  induction h with
  | one n body fld hs h7 hb ih =>
    rw [varNames_cons, List.mem_append]
    rintro (h | h)
    · split at h
      · rename_i h8
        have h8 : n.op = 8 := by simpa using h8
        have hn : n.s.toList = [] := by simpa using (List.mem_singleton.1 h).symm
        rw [shapedT, if_neg (by omega), if_neg (by omega), if_pos h8, hn] at hs
        simp [variableB, nameErr] at hs
      · cases h
    · exact ih h
  | nil r l => simp [varNames]
  | cons c r l m xs ys hl hx hy ih1 ih2 =>
    rw [varNames_append, List.mem_append]
    rintro (h | h)
    · exact ih1 h
    · exact ih2 h
theorem varNames_ne {e : List Nd} (h : treeErr e = 0) : ([] : List UInt8) ∉ varNames e := ex_vars ((tree_iff e).1 h).2
end Go.Proofs.YtnhcjpmamgdeoaaGreatDoor
namespace Go.Proofs.YtnhcjpmamgdeoaaGreatDoor
open Go.RowKit

structure Ud where
  ty : ByteArray
  id : ByteArray
structure Sc where
  op : Int
  ty : ByteArray
  uid : Ud
structure Cd where
  unless_ : Bool
  expr : List Nd
structure Po where
  name : ByteArray
  forbid : Bool
  who : Sc
  act : Sc
  what : Sc
  conds : List Cd
/-- What is wrong with a uid. -/
def udErr (u : Ud) : Int := if nameErr u.ty.toList = 0 then textErr u.id.toList else nameErr u.ty.toList
def udOk (u : Ud) : Bool := udErr u == 0
def emp (s : ByteArray) : Bool := decide (s.toList = [])
def udNone (u : Ud) : Bool := emp u.ty && emp u.id
/-- Is it a scope, of a kind that may have a slot or not? -/
def scOk (s : Sc) (slot : Bool) : Bool :=
  if s.op = 0 then udNone s.uid && emp s.ty
  else if s.op = 5 ∨ s.op = 6 then slot && (udNone s.uid && emp s.ty)
  else if s.op = 1 ∨ s.op = 2 then udOk s.uid && emp s.ty
  else if s.op = 3 then nameErr s.ty.toList == 0 && udNone s.uid
  else if s.op = 4 then nameErr s.ty.toList == 0 && udOk s.uid
  else false
/-- A slot's name. -/
def slotB (l : List UInt8) : Bool := l.head? == some 63
def slotN (x : Nd) : Bool := x.op == 8 && slotB x.s.toList
def cdErr (e : List Nd) : Int := if treeErr e ≠ 0 then treeErr e else if e.any slotN = true then 1 else 0
def cdsErr : List Cd → Int
  | [] => 0
  | c :: r => if cdErr c.expr ≠ 0 then cdErr c.expr else cdsErr r
def polErr (p : Po) : Int :=
  if nameErr p.name.toList ≠ 0 then nameErr p.name.toList
  else if scOk p.who true = false ∨ scOk p.act false = false ∨ scOk p.what true = false then 1
  else if 4 < p.conds.length then 4
  else cdsErr p.conds
theorem varNames_mem {e : List Nd} {t : List UInt8} : t ∈ varNames e ↔ ∃ x, x ∈ e ∧ (x.op == 8) = true ∧ x.s.toList = t := by
  simp only [varNames, List.mem_map, List.mem_filter, and_assoc]
theorem slot_vars (e : List Nd) : e.any slotN = (varsL e).any slotB := by
  rw [Bool.eq_iff_iff, List.any_eq_true, List.any_eq_true]
  constructor
  · rintro ⟨x, hx, hs⟩
    unfold slotN at hs
    rw [Bool.and_eq_true] at hs
    exact ⟨x.s.toList, (mem_varsL e _).2 (varNames_mem.2 ⟨x, hx, hs.1, rfl⟩), hs.2⟩
  · rintro ⟨l, hl, hs⟩
    obtain ⟨x, hx, hop, he⟩ := varNames_mem.1 ((mem_varsL e _).1 hl)
    exact ⟨x, hx, by unfold slotN; rw [he, hs, hop]; rfl⟩
end Go.Proofs.YtnhcjpmamgdeoaaGreatDoor
