/-
  PLAIN WORDS: diagrams: the cells of a table, each once; what one comes to on the way down.
-/
import Derived.Test.YtnhcjpmamgdeoaaDoorTrP
namespace Go.Proofs.YtnhcjpmamgdeoaaDoor
open Go.RowKit

/-- A cell. -/
structure Ce where
  atom : Int
  low : Nat
  high : Nat
deriving DecidableEq
def ceBase : List Ce := [⟨-1, 0, 0⟩, ⟨-1, 1, 1⟩]
/-- The place of a cell, each once. -/
def cellP (cs : List Ce) (c : Ce) : List Ce × Nat :=
  if c.low = c.high then (cs, c.low) else if (cs.drop 2).idxOf c < (cs.drop 2).length then (cs, (cs.drop 2).idxOf c + 2) else (cs ++ [c], cs.length)
def dOf : Nat → List Ce → List Bool → Int → List Ce × Nat
  | 0, cs, t, _ => (cs, if t.head? = some true then 1 else 0)
  | k + 1, cs, t, a => cellP (dOf k (dOf k cs (t.take (2 ^ k)) (a + 1)).1 (t.drop (2 ^ k)) (a + 1)).1 ⟨a, (dOf k cs (t.take (2 ^ k)) (a + 1)).2, (dOf k (dOf k cs (t.take (2 ^ k)) (a + 1)).1 (t.drop (2 ^ k)) (a + 1)).2⟩
def diaP (k : Nat) (t : List Bool) : List Ce :=
  if (dOf k ceBase t 0).2 < 2 then (dOf k ceBase t 0).1 ++ [⟨-1, (dOf k ceBase t 0).2, (dOf k ceBase t 0).2⟩] else (dOf k ceBase t 0).1

/-- The cells are in order: behind the first two, each leads on to unlike ones ahead of it, of later atoms; no two are the same. -/
structure CeOk (N : Int) (cs : List Ce) : Prop where
  two : ∃ r, cs = ceBase ++ r
  low : ∀ (i : Nat) c, cs[i]? = some c → 2 ≤ i → c.low < i ∧ c.high < i ∧ c.low ≠ c.high ∧ 0 ≤ c.atom ∧ c.atom < N
  up : ∀ (i : Nat) c, cs[i]? = some c → 2 ≤ i → ∀ j d, (j = c.low ∨ j = c.high) → 2 ≤ j → cs[j]? = some d → c.atom < d.atom
  once : (cs.drop 2).Nodup
theorem ceBase_ok (N : Int) : CeOk N ceBase := by
  refine ⟨⟨[], rfl⟩, ?_, ?_, List.nodup_nil⟩
  · intro i c h hi
    have := (List.getElem?_eq_some_iff.1 h).1
    simp [ceBase] at this; omega
  · intro i c h hi
    have := (List.getElem?_eq_some_iff.1 h).1
    simp [ceBase] at this; omega
theorem CeOk.len {N : Int} {cs : List Ce} (h : CeOk N cs) : 2 ≤ cs.length := by
  obtain ⟨r, rfl⟩ := h.two; simp [ceBase]
/-- A place that a table from the atom a on may lead to. -/
def PlOk (cs : List Ce) (a : Int) (i : Nat) : Prop := i < cs.length ∧ ∀ d, 2 ≤ i → cs[i]? = some d → a ≤ d.atom
theorem PlOk.more {cs : List Ce} {a : Int} {i : Nat} (h : PlOk cs a i) (r : List Ce) : PlOk (cs ++ r) a i :=
  ⟨by rw [List.length_append]; have := h.1; omega, fun d hi hd => h.2 d hi (by rwa [List.getElem?_append_left h.1] at hd)⟩
theorem PlOk.less {cs : List Ce} {a b : Int} {i : Nat} (h : PlOk cs a i) (hb : b ≤ a) : PlOk cs b i := ⟨h.1, fun d hi hd => Int.le_trans hb (h.2 d hi hd)⟩
/-- What a place tells, of so many atoms from a on. -/
def tabC (cs : List Ce) : Nat → Nat → Int → List Bool
  | 0, i, _ => [i == 1]
  | k + 1, i, a =>
    match cs[i]? with
    | some c => if 2 ≤ i ∧ c.atom = a then tabC cs k c.low (a + 1) ++ tabC cs k c.high (a + 1) else tabC cs k i (a + 1) ++ tabC cs k i (a + 1)
    | none => tabC cs k i (a + 1) ++ tabC cs k i (a + 1)
theorem tabC_len (cs : List Ce) : ∀ k i a, (tabC cs k i a).length = 2 ^ k
  | 0, _, _ => rfl
  | k + 1, i, a => by
    rw [tabC]
    split
    · split
      · rw [List.length_append, tabC_len cs k, tabC_len cs k, Nat.pow_succ]; omega
      · rw [List.length_append, tabC_len cs k, Nat.pow_succ]; omega
    · rw [List.length_append, tabC_len cs k, Nat.pow_succ]; omega
theorem tabC_low (cs : List Ce) {i : Nat} (hi : i < 2) : ∀ k a, tabC cs k i a = List.replicate (2 ^ k) (i == 1)
  | 0, _ => rfl
  | k + 1, a => by
    rw [tabC]
    split
    · rw [if_neg (by omega), tabC_low cs hi k, List.replicate_append_replicate, Nat.pow_succ]; congr 1; omega
    · rw [tabC_low cs hi k, List.replicate_append_replicate, Nat.pow_succ]; congr 1; omega
/-- New cells behind change nothing. -/
theorem tabC_more {N : Int} {cs : List Ce} (h : CeOk N cs) (r : List Ce) : ∀ k i a, i < cs.length → tabC (cs ++ r) k i a = tabC cs k i a
  | 0, _, _, _ => rfl
  | k + 1, i, a, hi => by
    rw [tabC, tabC, List.getElem?_append_left hi, List.getElem?_eq_getElem hi]
    simp only
    split
    · rename_i hc
      have hl := h.low i _ (List.getElem?_eq_getElem hi) hc.1
      rw [tabC_more h r k _ _ (by omega), tabC_more h r k _ _ (by omega)]
    · rw [tabC_more h r k _ _ hi]
/-- A place that looks at later atoms alone tells the same for both. -/
theorem tabC_skip {cs : List Ce} {k i : Nat} {a : Int} (h : PlOk cs (a + 1) i) : tabC cs (k + 1) i a = tabC cs k i (a + 1) ++ tabC cs k i (a + 1) := by
  rw [tabC, List.getElem?_eq_getElem h.1]
  simp only
  rw [if_neg]
  rintro ⟨h2, ha⟩
  have := h.2 _ h2 (List.getElem?_eq_getElem h.1)
  omega
theorem tabC_cell {cs : List Ce} {k i : Nat} {a : Int} {c : Ce} (hi : cs[i]? = some c) (h2 : 2 ≤ i) (ha : c.atom = a) : tabC cs (k + 1) i a = tabC cs k c.low (a + 1) ++ tabC cs k c.high (a + 1) := by
  rw [tabC, hi]
  simp only
  rw [if_pos ⟨h2, ha⟩]

theorem idx_drop {cs : List Ce} {c : Ce} (h : (cs.drop 2).idxOf c < (cs.drop 2).length) : cs[(cs.drop 2).idxOf c + 2]? = some c := by
  have h1 := List.getElem_idxOf h
  have h2 : (cs.drop 2)[(cs.drop 2).idxOf c]? = some c := by rw [List.getElem?_eq_getElem h, h1]
  rw [List.getElem?_drop] at h2
  rw [Nat.add_comm]; exact h2
/-- A cell is put there: the cells are in order still. -/
theorem cellP_ok {N : Int} {cs : List Ce} (h : CeOk N cs) {a : Int} {l u k : Nat} (hl : PlOk cs (a + 1) l) (hu : PlOk cs (a + 1) u) (h0 : 0 ≤ a) (hN : a < N) :
    ∃ r, (cellP cs ⟨a, l, u⟩).1 = cs ++ r ∧ CeOk N (cs ++ r) ∧ PlOk (cs ++ r) a (cellP cs ⟨a, l, u⟩).2 ∧
      tabC (cs ++ r) (k + 1) (cellP cs ⟨a, l, u⟩).2 a = tabC cs k l (a + 1) ++ tabC cs k u (a + 1) := by
  have h2 := h.len
  unfold cellP
  by_cases hlu : l = u
  · subst hlu
    rw [if_pos rfl]
    exact ⟨[], by simp, by simpa using h, by simpa using hl.less (by omega), by rw [List.append_nil]; exact tabC_skip hl⟩
  · rw [if_neg hlu]
    split
    · rename_i hk
      have hx := idx_drop hk
      refine ⟨[], by simp, by simpa using h, ?_, ?_⟩
      · rw [List.append_nil]
        refine ⟨(List.getElem?_eq_some_iff.1 hx).1, fun d _ hd => ?_⟩
        rw [hx] at hd; injection hd with hd; subst hd; exact Int.le_refl _
      · rw [List.append_nil]; exact tabC_cell hx (by omega) rfl
    · rename_i hk
      have hmem : (⟨a, l, u⟩ : Ce) ∉ cs.drop 2 := fun hm => hk (List.idxOf_lt_length_iff.2 hm)
      refine ⟨[⟨a, l, u⟩], rfl, ?_, ?_, ?_⟩
      · obtain ⟨r, hr⟩ := h.two
        refine ⟨⟨r ++ [⟨a, l, u⟩], by rw [hr, List.append_assoc]⟩, ?_, ?_, ?_⟩
        · intro i c hc hi
          by_cases hlt : i < cs.length
          · rw [List.getElem?_append_left hlt] at hc; exact h.low i c hc hi
          · have hi' : i = cs.length := by have := (List.getElem?_eq_some_iff.1 hc).1; simp at this; omega
            subst hi'
            simp at hc; subst hc
            exact ⟨hl.1, hu.1, hlu, h0, hN⟩
        · intro i c hc hi j d hj hj2 hd
          by_cases hlt : i < cs.length
          · rw [List.getElem?_append_left hlt] at hc
            have hlo := h.low i c hc hi
            rw [List.getElem?_append_left (by omega)] at hd
            exact h.up i c hc hi j d hj hj2 hd
          · have hi' : i = cs.length := by have := (List.getElem?_eq_some_iff.1 hc).1; simp at this; omega
            subst hi'
            simp at hc; subst hc
            rcases hj with rfl | rfl
            · rw [List.getElem?_append_left hl.1] at hd; have := hl.2 d hj2 hd; simp only; omega
            · rw [List.getElem?_append_left hu.1] at hd; have := hu.2 d hj2 hd; simp only; omega
        · rw [List.drop_append_of_le_length h2, List.nodup_append]
          exact ⟨h.once, by simp, by intro x hx y hy; simp at hy; subst hy; rintro rfl; exact hmem hx⟩
      · refine ⟨by simp, fun d _ hd => ?_⟩
        simp at hd; subst hd; exact Int.le_refl _
      · have hx : (cs ++ [(⟨a, l, u⟩ : Ce)])[cs.length]? = some ⟨a, l, u⟩ := by simp
        simp only
        rw [tabC_cell hx h2 rfl, tabC_more h _ k l _ hl.1, tabC_more h _ k u _ hu.1]
/-- The diagram of a table: its place tells the table. -/
theorem dOf_ok {N : Int} : ∀ (k : Nat) {cs : List Ce} (_ : CeOk N cs) (t : List Bool) (a : Int), t.length = 2 ^ k → 0 ≤ a → a + k = N →
    ∃ r, (dOf k cs t a).1 = cs ++ r ∧ CeOk N (cs ++ r) ∧ PlOk (cs ++ r) a (dOf k cs t a).2 ∧ tabC (cs ++ r) k (dOf k cs t a).2 a = t
  | 0, cs, h, t, a, ht, h0, hN => by
    have h2 := h.len
    match t, ht with
    | [b], _ =>
      refine ⟨[], by simp [dOf], by simpa using h, ?_, ?_⟩
      · rw [List.append_nil, dOf]
        cases b
        · exact ⟨by simp; omega, fun d hi => by simp at hi⟩
        · exact ⟨by simp; omega, fun d hi => by simp at hi⟩
      · cases b <;> simp [dOf, tabC]
  | k + 1, cs, h, t, a, ht, h0, hN => by
    rw [Nat.pow_succ] at ht
    obtain ⟨r1, e1, o1, p1, t1⟩ := dOf_ok k h (t.take (2 ^ k)) (a + 1) (by rw [List.length_take]; omega) (by omega) (by omega)
    rw [dOf, e1]
    obtain ⟨r2, e2, o2, p2, t2⟩ := dOf_ok k o1 (t.drop (2 ^ k)) (a + 1) (by rw [List.length_drop]; omega) (by omega) (by omega)
    rw [e2]
    obtain ⟨r3, e3, o3, p3, t3⟩ := cellP_ok (k := k) o2 (p1.more r2) p2 h0 (by omega)
    rw [e3]
    refine ⟨r1 ++ r2 ++ r3, by simp only [List.append_assoc], by simpa only [List.append_assoc] using o3, by simpa only [List.append_assoc] using p3, ?_⟩
    have := t3
    rw [tabC_more o1 r2 k _ _ p1.1, t1, t2, List.take_append_drop] at this
    simpa only [List.append_assoc] using this
end Go.Proofs.YtnhcjpmamgdeoaaDoor
