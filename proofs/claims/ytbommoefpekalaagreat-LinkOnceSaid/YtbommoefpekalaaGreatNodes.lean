/-
  PLAIN WORDS: slices of nodes in memory; their order.
-/
import Derived.Test.YtbommoefpekalaaGreatBase
namespace Go.Proofs.YtbommoefpekalaaGreat
open Go.RowKit

/-- The four cells of a node. -/
structure NdAt (w : World) (b o : Nat) (x : Nd) : Prop where
  c0 : w.cell? ⟨b, o, none⟩ = some (.int .i64 x.op)
  c1 : w.cell? ⟨b, o + 1, none⟩ = some (.int .i64 x.n)
  c2 : w.cell? ⟨b, o + 2, none⟩ = some (.string x.s)
  c3 : w.cell? ⟨b, o + 3, none⟩ = some (.string x.t)
/-- A slice of nodes, below block B. -/
def NdSl (w : World) (B : Nat) (A : Option Addr) (xs : List Nd) : Prop :=
  xs ≠ [] → ∃ b o, A = some ⟨b, o, none⟩ ∧ b < B ∧ ∀ i x, xs[i]? = some x → NdAt w b (o + i * 4) x
theorem NdAt.keep {w w' : World} {b o B : Nat} {x : Nd} (h : NdAt w b o x) (hb : b < B) (hk : ∀ p : Addr, p.block < B → w'.cell? p = w.cell? p) : NdAt w' b o x :=
  ⟨(hk _ hb).trans h.c0, (hk _ hb).trans h.c1, (hk _ hb).trans h.c2, (hk _ hb).trans h.c3⟩
theorem NdSl.keep {w w' : World} {B : Nat} {A : Option Addr} {xs : List Nd} (h : NdSl w B A xs) (hk : ∀ p : Addr, p.block < B → w'.cell? p = w.cell? p) : NdSl w' B A xs := fun hne => by
  obtain ⟨b, o, e, hb, hc⟩ := h hne
  exact ⟨b, o, e, hb, fun i x hx => (hc i x hx).keep hb hk⟩
theorem NdSl.below {w w' : World} {B : Nat} {A : Option Addr} {xs : List Nd} (h : NdSl w B A xs) (hb : Below B w w') : NdSl w' B A xs := h.keep fun _ hp => hb.cell hp
theorem NdSl.more {w : World} {B B' : Nat} {A : Option Addr} {xs : List Nd} (h : NdSl w B A xs) (hB : B ≤ B') : NdSl w B' A xs := fun hne => by
  obtain ⟨b, o, e, hb, hc⟩ := h hne
  exact ⟨b, o, e, Nat.lt_of_lt_of_le hb hB, hc⟩
theorem NdSl.nil (w : World) (B : Nat) (A : Option Addr) : NdSl w B A [] := fun h => absurd rfl h
theorem NdSl.at_ {w : World} {B : Nat} {A : Option Addr} {xs : List Nd} (h : NdSl w B A xs) {i : Nat} (hi : i < xs.length) : ∃ b o, A = some ⟨b, o, none⟩ ∧ b < B ∧ ∀ j x, xs[j]? = some x → NdAt w b (o + j * 4) x :=
  h (by intro e; subst e; simp at hi)

/-- The order of lists of nodes. -/
def ndsCmp : List Nd → List Nd → Int
  | [], [] => 0
  | [], _ :: _ => -1
  | _ :: _, [] => 1
  | x :: xs, y :: ys => if ndCmp x y = 0 then ndsCmp xs ys else ndCmp x y
end Go.Proofs.YtbommoefpekalaaGreat
