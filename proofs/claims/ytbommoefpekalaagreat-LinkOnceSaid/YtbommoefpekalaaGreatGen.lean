/-
  PLAIN WORDS: slices of values of k cells each, in memory; rows of them that a call makes.
-/
import Derived.Test.YtbommoefpekalaaGreatMem
import Derived.Laws.OwnMore
namespace Go.Proofs.YtbommoefpekalaaGreat
open Go.RowKit

/-- How values of some type stand in cells: k cells each. -/
structure EncOk {α : Type} (enc : α → List Value) (k : Nat) : Prop where
  len : ∀ x, (enc x).length = k
  pos : 0 < k
  one : ∀ x u, u ∈ enc x → u.oneCell' = true

section
variable {α : Type} {enc : α → List Value} {k : Nat}
def flatG (enc : α → List Value) (xs : List α) : List Value := xs.flatMap enc
theorem flatG_len (he : EncOk enc k) (xs : List α) : (flatG enc xs).length = xs.length * k := by
  induction xs with
  | nil => simp [flatG]
  | cons x xs ih => simp only [flatG, List.flatMap_cons, List.length_append, List.length_cons] at ih ⊢; rw [ih, he.len, Nat.add_mul]; omega
theorem flatG_append (xs ys : List α) : flatG enc (xs ++ ys) = flatG enc xs ++ flatG enc ys := by simp [flatG]
theorem flatG_one (x : α) : flatG enc [x] = enc x := by simp [flatG]
theorem flatG_nil : flatG enc [] = [] := rfl
theorem flatG_get (he : EncOk enc k) (xs : List α) : ∀ (i r : Nat), r < k → (flatG enc xs)[i * k + r]? = (xs[i]?).bind fun x => (enc x)[r]? := by
  induction xs with
  | nil => intro i r _; simp [flatG]
  | cons x xs ih =>
    intro i r hr
    have hl := he.len x
    simp only [flatG, List.flatMap_cons] at ih ⊢
    cases i with
    | zero => rw [List.getElem?_append_left (by omega)]; simp
    | succ i =>
      have h1 : (i + 1) * k = i * k + k := by rw [Nat.add_mul]; omega
      rw [List.getElem?_append_right (by omega), hl, show (i + 1) * k + r - k = i * k + r from by omega, ih i r hr]
      simp
theorem flatG_cell (he : EncOk enc k) (xs : List α) : ∀ u ∈ flatG enc xs, u.oneCell' = true := by
  intro u hu
  simp only [flatG, List.mem_flatMap] at hu
  obtain ⟨x, _, hx⟩ := hu
  exact he.one x u hx

/-- The cells of one. -/
def AtG (enc : α → List Value) (w : World) (b o : Nat) (x : α) : Prop := ∀ j u, (enc x)[j]? = some u → w.cell? ⟨b, o + j, none⟩ = some u
/-- A slice of them, below block B. -/
def SlG (enc : α → List Value) (k : Nat) (w : World) (B : Nat) (A : Option Addr) (xs : List α) : Prop :=
  xs ≠ [] → ∃ b o, A = some ⟨b, o, none⟩ ∧ b < B ∧ ∀ i x, xs[i]? = some x → AtG enc w b (o + i * k) x
theorem AtG.keep {w w' : World} {b o B : Nat} {x : α} (h : AtG enc w b o x) (hb : b < B) (hk : ∀ p : Addr, p.block < B → w'.cell? p = w.cell? p) : AtG enc w' b o x := fun j u hu => (hk _ hb).trans (h j u hu)
theorem SlG.keep {w w' : World} {B : Nat} {A : Option Addr} {xs : List α} (h : SlG enc k w B A xs) (hk : ∀ p : Addr, p.block < B → w'.cell? p = w.cell? p) : SlG enc k w' B A xs := fun hne => by
  obtain ⟨b, o, e, hb, hc⟩ := h hne
  exact ⟨b, o, e, hb, fun i x hx => (hc i x hx).keep hb hk⟩
theorem SlG.below {w w' : World} {B : Nat} {A : Option Addr} {xs : List α} (h : SlG enc k w B A xs) (hb : Below B w w') : SlG enc k w' B A xs := h.keep fun _ hp => hb.cell hp
theorem SlG.more {w : World} {B B' : Nat} {A : Option Addr} {xs : List α} (h : SlG enc k w B A xs) (hB : B ≤ B') : SlG enc k w B' A xs := fun hne => by
  obtain ⟨b, o, e, hb, hc⟩ := h hne
  exact ⟨b, o, e, Nat.lt_of_lt_of_le hb hB, hc⟩
/-- In a later world. -/
theorem SlG.later {w w' : World} {A : Option Addr} {xs : List α} (h : SlG enc k w w.heap.size A xs) (hb : Below w.heap.size w w') : SlG enc k w' w'.heap.size A xs := (h.below hb).more hb.size
theorem SlG.nil (w : World) (B : Nat) (A : Option Addr) : SlG enc k w B A [] := fun h => absurd rfl h
theorem SlG.at_ {w : World} {B : Nat} {A : Option Addr} {xs : List α} (h : SlG enc k w B A xs) {i : Nat} (hi : i < xs.length) : ∃ b o, A = some ⟨b, o, none⟩ ∧ b < B ∧ ∀ j x, xs[j]? = some x → AtG enc w b (o + j * k) x :=
  h (by intro e; subst e; simp at hi)
theorem add_none (b o j : Nat) : (⟨b, o, none⟩ : Addr).add j = ⟨b, o + j, none⟩ := by
  unfold Addr.add; split
  · subst_vars; rfl
  · rfl
theorem SlG.flat {w : World} {B b o : Nat} {xs : List α} (he : EncOk enc k) (h : SlG enc k w B (some ⟨b, o, none⟩) xs) (j : Nat) (u : Value) (hu : (flatG enc xs)[j]? = some u) : w.cell? ((⟨b, o, none⟩ : Addr).add j) = some u := by
  have hne : xs ≠ [] := by rintro rfl; simp [flatG] at hu
  obtain ⟨b', o', e, _, hc⟩ := h hne
  injection e with e; injection e with e1 e2; subst e1 e2
  rw [add_none]
  obtain ⟨i, r, hr, rfl⟩ : ∃ i r, r < k ∧ j = i * k + r := ⟨j / k, j % k, Nat.mod_lt _ he.pos, by rw [Nat.mul_comm]; exact (Nat.div_add_mod j k).symm⟩
  rw [flatG_get he xs i r hr] at hu
  cases hx : xs[i]? with
  | none => rw [hx] at hu; cases hu
  | some x =>
    rw [hx] at hu
    rw [← Nat.add_assoc]
    exact hc i x hx r u hu
theorem SlG.of_flat (he : EncOk enc k) {w : World} {B g : Nat} {xs : List α} (hg : g < B) (h : ∀ j u, (flatG enc xs)[j]? = some u → w.cell? ⟨g, j, none⟩ = some u) : SlG enc k w B (some ⟨g, 0, none⟩) xs := fun _ =>
  ⟨g, 0, rfl, hg, fun i x hx r u hu => by
    have hr : r < k := by have := (List.getElem?_eq_some_iff.1 hu).1; rw [he.len] at this; exact this
    rw [Nat.zero_add]
    exact h _ _ (by rw [flatG_get he xs i r hr, hx]; exact hu)⟩
theorem block_addG (a : Addr) (n : Nat) : (a.add n).block = a.block := by unfold Addr.add; split <;> rfl
theorem SlG.flat_alloc (he : EncOk enc k) {w : World} {B b o : Nat} {xs : List α} (h : SlG enc k w B (some ⟨b, o, none⟩) xs) (hB : b < w.heap.size) (O : Obj) (j : Nat) (u : Value) (hu : (flatG enc xs)[j]? = some u) : (w.alloc O).cell? ((⟨b, o, none⟩ : Addr).add j) = some u :=
  (World.cell?_alloc_lt w O _ (by rw [block_addG]; exact hB)).trans (h.flat he j u hu)
/-- A row of the call's own. -/
theorem own_formG (he : EncOk enc k) {w : World} {base : Nat} {e : TypeId} {v : Value} {n : Nat} {xs : List α} (h : w.ownsRow base e k v n (flatG enc xs)) :
    n = xs.length ∧ ∃ A c, v = .slice A n c ∧ n ≤ c ∧ c ≤ 9223372036854775807 ∧ SlG enc k w w.heap.size A xs := by
  have hn : n = xs.length := by
    have := h.1; rw [flatG_len he] at this
    exact (Nat.eq_of_mul_eq_mul_right he.pos this).symm
  refine ⟨hn, ?_⟩
  rcases h.2 with ⟨hv, h0⟩ | ⟨g, cap, cur, hv, hb, hg, hnc, hcm, hcs, htk⟩
  · subst h0
    have : xs = [] := List.eq_nil_of_length_eq_zero hn.symm
    subst this
    exact ⟨none, 0, hv, Nat.le_refl _, by omega, SlG.nil _ _ _⟩
  · unfold maxLen at hcm
    refine ⟨some ⟨g, 0, none⟩, cap, hv, hnc, hcm, SlG.of_flat he (Array.getElem?_eq_some_iff.1 hg).1 fun j u hu => ?_⟩
    have hj : j < n * k := by have := (List.getElem?_eq_some_iff.1 hu).1; rw [flatG_len he, ← hn] at this; exact this
    subst hv
    exact (h.cellAt j hj).trans hu
/-- A row is kept by whatever turns nothing that was there. -/
theorem own_keep {B n m : Nat} {e : TypeId} {v : Value} {xs : List Value} {w w' : World} (h : w.ownsRow B e m v n xs) (hb : RowKit.Below w.heap.size w w') : w'.ownsRow B e m v n xs :=
  h.kept (row := none) ⟨hb.os, hb.tape, hb.output, hb.size, fun k hk _ => hb.block k hk⟩ (by cases hv : v.ownBlock with | none => exact .inl rfl | some g => exact .inr (by simp))
/-- The new block behind a literal of one. -/
theorem new_flatG (W : World) (t : TypeId) (x : α) (cs : Array Value) (hcs : cs.toList = enc x) (g : Nat) (hg : g = W.heap.size) (j : Nat) (u : Value) (hu : (flatG enc [x])[j]? = some u) :
    (W.alloc (.cells cs t)).cell? ((⟨g, 0, none⟩ : Addr).add j) = some u := by
  subst hg
  rw [add_none, Nat.zero_add, World.cell?_alloc_new, ← hu, flatG_one, ← hcs, Array.getElem?_toList]
/-- The new block behind a literal of some. -/
theorem new_SlG (he : EncOk enc k) (W : World) (t : TypeId) (xs : List α) (cs : Array Value) (h : cs.toList = flatG enc xs) : SlG enc k (W.alloc (.cells cs t)) (W.heap.size + 1) (some ⟨W.heap.size, 0, none⟩) xs :=
  SlG.of_flat he (by omega) fun j u hu => by rw [World.cell?_alloc_new, ← hu, ← h, Array.getElem?_toList]
end
end Go.Proofs.YtbommoefpekalaaGreat
