/-
  LISTS OF NODES IN MEMORY, off the row into which their slices are collected.
-/
import Derived.Test.YtnhcjpmamgdeoaaGreatDoorNsm
import Derived.Maps.AppendAt
namespace Go.Proofs.YtnhcjpmamgdeoaaGreatDoor
open Go.RowKit Go.Sort

/-- A list of nodes in none of a row's blocks. -/
structure NsOff (w : World) (q : Option Nat) (x : NsM) : Prop where
  off : NdOff (fun b => q = some b) w w.heap.size x.A x.e
  le : x.e.length ≤ x.c
  max : x.c ≤ 9223372036854775807
theorem NsOff.good {w : World} {q : Option Nat} {x : NsM} (h : NsOff w q x) : NsGood w w.heap.size x := ⟨h.off.sl, h.le, h.max⟩
theorem NsOff.grown {w w' : World} {q q' : Option Nat} {x : NsM} (h : NsOff w q x) (hg : w.grownBy w' q) (hq : q' = q ∨ q' = some w.heap.size) : NsOff w' q' x :=
  ⟨fun hne => by
    obtain ⟨b, o, e, h1, h2, h3⟩ := h.off hne
    have h2' : ¬ q = some b := h2
    have hk : ∀ i, w'.cell? ⟨b, i, none⟩ = w.cell? ⟨b, i, none⟩ := fun i => World.cell?_of_block (w := w) (a := ⟨b, i, none⟩) (hg.block b h1 (fun e => h2' e.symm))
    refine ⟨b, o, e, Nat.lt_of_lt_of_le h1 hg.size, ?_, fun i y hy => ?_⟩
    · show ¬ q' = some b
      rcases hq with rfl | rfl
      · exact h2'
      · intro hh; injection hh with hh; omega
    · obtain ⟨q0, q1, q2, q3⟩ := h3 i y hy
      exact ⟨(hk _).trans q0, (hk _).trans q1, (hk _).trans q2, (hk _).trans q3⟩, h.le, h.max⟩
theorem NsOff.later {w w' : World} {q : Option Nat} {x : NsM} (h : NsOff w q x) (hb : RowKit.Below w.heap.size w w') : NsOff w' q x :=
  ⟨h.off.keep (fun _ hp _ => hb.cell hp) hb.size, h.le, h.max⟩
theorem NsGood.away {w : World} {B : Nat} {q : Option Nat} {x : NsM} (h : NsGood w B x) (hB : B ≤ w.heap.size) (hq : ∀ b, q = some b → B ≤ b) : NsOff w q x :=
  ⟨h.sl.off hq hB, h.le, h.max⟩
theorem NsGood.fresh {w : World} {B : Nat} {q : Option Nat} {x : NsM} (h : NsGood w w.heap.size x) (hn : ∀ b o, x.A = some ⟨b, o, none⟩ → B ≤ b) (hq : ∀ b, q = some b → b < B) : NsOff w q x :=
  ⟨fun hne => by
    obtain ⟨b, o, e, h1, h3⟩ := h.sl hne
    exact ⟨b, o, e, h1, fun hh => by have := hq b hh; have := hn b o e; omega, h3⟩, h.le, h.max⟩
theorem own_form_new {w : World} {base : Nat} {e : TypeId} {v : Value} {n : Nat} {xs : List Nd} (h : w.ownsRow base e 4 v n (flat xs)) :
    ∃ A c, v = .slice A n c ∧ n ≤ c ∧ c ≤ 9223372036854775807 ∧ NdSl w w.heap.size A xs ∧ ∀ b o, A = some ⟨b, o, none⟩ → base ≤ b := by
  obtain ⟨A, c, hv, hc, hm, hs⟩ := own_form (xs := xs) (ys := []) (by rw [show flat ([] : List Nd) = [] from rfl, List.append_nil]; exact h)
  rw [List.append_nil] at hs
  refine ⟨A, c, hv, hc, hm, hs, fun b o hA => ?_⟩
  subst hA
  rcases h.2 with ⟨h1, _⟩ | ⟨g, cap, cur, h1, hb, _⟩
  · rw [hv] at h1; cases h1
  · rw [hv] at h1; injection h1 with h1; injection h1 with h1; injection h1 with h1; omega
/-- A list of nodes that a call hands back, in memory that it has made. -/
def NdsNew (w : World) (r : Ending) (w' : World) (xs : List Nd) : Prop :=
  ∃ A c, r = .returned (.slice A xs.length c) ∧ xs.length ≤ c ∧ c ≤ 9223372036854775807 ∧ NdSl w' w'.heap.size A xs ∧ RowKit.Below w.heap.size w w' ∧ ∀ b o, A = some ⟨b, o, none⟩ → w.heap.size ≤ b
theorem ns_info : (Tryz.prog.info? 24).map (fun i => (i.zero, i.size, i.bytes)) = some (some (.slice none 0 0), 1, 24) := by kernel_rfl
/-- The row's own block was there. -/
theorem own_lt {w : World} {base : Nat} {e : TypeId} {k : Nat} {v : Value} {n : Nat} {xs : List Value} (h : w.ownsRow base e k v n xs) {b : Nat} (hb : v.ownBlock = some b) : base ≤ b ∧ b < w.heap.size := by
  rcases h.2 with ⟨h1, _⟩ | ⟨g, cap, cur, h1, hbg, hg, _⟩
  · rw [h1] at hb; cases hb
  · rw [h1] at hb
    injection hb with hb
    have h2 : g = b := hb
    subst h2
    exact ⟨hbg, (Array.getElem?_eq_some_iff.1 hg).1⟩
/-- One more is collected. -/
theorem collect {wr wa w6 : World} {v v' : Value} {ps : List NsM} {x : NsM} (ha : RowKit.Below wr.heap.size wr wa) (hN : ∀ y ∈ ps, NsOff wr v.ownBlock y) (hx : NsOff wa v.ownBlock x) (hg : wa.grownBy w6 v.ownBlock)
    (hloc : v'.ownBlock = v.ownBlock ∨ v'.ownBlock = some wa.heap.size) : ∀ y ∈ ps ++ [x], NsOff w6 v'.ownBlock y := by
  intro y hy
  rcases List.mem_append.1 hy with hy | hy
  · exact ((hN y hy).later ha).grown hg hloc
  · simp at hy; subst hy; exact hx.grown hg hloc
theorem ns_snoc (ps : List NsM) (x : NsM) : flatG NsM.cells (ps ++ [x]) = flatG NsM.cells ps ++ [.slice x.A x.e.length x.c] := by rw [flatG_append, flatG_one]; rfl
end Go.Proofs.YtnhcjpmamgdeoaaGreatDoor
