/-
  LISTS OF NODES IN MEMORY: in none of some blocks; lists of such lists.
-/
import Derived.Test.YtnhcjpmamgdeoaaGreatDoorNames
import Derived.Test.YtnhcjpmamgdeoaaGreatDoorP
import Derived.Lib.SliceRun
import Derived.Laws.OwnMore
namespace Go.Proofs.YtnhcjpmamgdeoaaGreatDoor
open Go.RowKit Go.Sort

/-- A slice of nodes below block B, in none of some blocks. -/
def NdOff (g : Nat → Prop) (w : World) (B : Nat) (A : Option Addr) (xs : List Nd) : Prop :=
  xs ≠ [] → ∃ b o, A = some ⟨b, o, none⟩ ∧ b < B ∧ ¬ g b ∧ ∀ i x, xs[i]? = some x → NdAt w b (o + i * 4) x
theorem NdOff.sl {g : Nat → Prop} {w : World} {B : Nat} {A : Option Addr} {xs : List Nd} (h : NdOff g w B A xs) : NdSl w B A xs := fun hne => by
  obtain ⟨b, o, e, h1, _, h3⟩ := h hne
  exact ⟨b, o, e, h1, h3⟩
theorem NdSl.off {g : Nat → Prop} {w : World} {B B' : Nat} {A : Option Addr} {xs : List Nd} (h : NdSl w B A xs) (hB : ∀ b, g b → B ≤ b) (hB' : B ≤ B') : NdOff g w B' A xs := fun hne => by
  obtain ⟨b, o, e, h1, h3⟩ := h hne
  exact ⟨b, o, e, by omega, fun hg => by have := hB b hg; omega, h3⟩
theorem NdOff.keep {g : Nat → Prop} {w w' : World} {B B' : Nat} {A : Option Addr} {xs : List Nd} (h : NdOff g w B A xs) (hk : ∀ p : Addr, p.block < B → ¬ g p.block → w'.cell? p = w.cell? p) (hB : B ≤ B') : NdOff g w' B' A xs := fun hne => by
  obtain ⟨b, o, e, h1, h2, h3⟩ := h hne
  exact ⟨b, o, e, by omega, h2, fun i x hx => by
    obtain ⟨q0, q1, q2, q3⟩ := h3 i x hx
    exact ⟨(hk _ h1 h2).trans q0, (hk _ h1 h2).trans q1, (hk _ h1 h2).trans q2, (hk _ h1 h2).trans q3⟩⟩
theorem nd_info : (Tryz.prog.info? 40).map (fun i => (i.zero, i.size, i.bytes)) = some (some (.agg #[.int .i64 0, .int .i64 0, .string ⟨#[]⟩, .string ⟨#[]⟩]), 4, 48) := by kernel_rfl
/-- A list of nodes, as it stands in memory. -/
structure NsM where
  A : Option Addr
  c : Nat
  e : List Nd
def NsM.cells (x : NsM) : List Value := [.slice x.A x.e.length x.c]
theorem ns_ok : EncOk NsM.cells 1 := ⟨fun _ => rfl, by omega, fun x u hu => by
  simp only [NsM.cells, List.mem_cons, List.not_mem_nil, or_false] at hu
  subst hu; rfl⟩
abbrev NsSl := SlG NsM.cells 1
structure NsGood (w : World) (B : Nat) (x : NsM) : Prop where
  sl : NdSl w B x.A x.e
  le : x.e.length ≤ x.c
  max : x.c ≤ 9223372036854775807
theorem NsGood.later {w w' : World} {x : NsM} (h : NsGood w w.heap.size x) (hb : Below w.heap.size w w') : NsGood w' w'.heap.size x := ⟨(h.sl.below hb).more hb.size, h.le, h.max⟩
/-- Lists of nodes in memory. -/
structure NssAt (w : World) (A : Option Addr) (ps : List NsM) : Prop where
  sl : NsSl w w.heap.size A ps
  good : ∀ x ∈ ps, NsGood w w.heap.size x
theorem NssAt.later {w w' : World} {A : Option Addr} {ps : List NsM} (h : NssAt w A ps) (hb : Below w.heap.size w w') : NssAt w' A ps :=
  ⟨h.sl.later hb, fun x hx => (h.good x hx).later hb⟩
theorem nsSl_at {w : World} {B : Nat} {A : Option Addr} {xs : List NsM} (h : NsSl w B A xs) {i : Nat} {x : NsM} (hx : xs[i]? = some x) : ∃ b o, A = some ⟨b, o, none⟩ ∧ b < B ∧ w.cell? ⟨b, o + i, none⟩ = some (.slice x.A x.e.length x.c) := by
  obtain ⟨b, o, h1, h2, h3⟩ := h.at_ (List.getElem?_eq_some_iff.1 hx).1
  have := h3 i x hx 0 _ rfl
  rw [Nat.mul_one, Nat.add_zero] at this
  exact ⟨b, o, h1, h2, this⟩
/-- All of some lists. -/
def catN (ps : List NsM) : List Nd := ps.flatMap NsM.e
theorem catN_step {ps : List NsM} {k : Nat} {p : NsM} (h : ps[k]? = some p) : catN (ps.take (k + 1)) = catN (ps.take k) ++ p.e := by
  unfold catN
  rw [List.take_add_one, h, List.flatMap_append]; simp
theorem catN_le {ps : List NsM} (k : Nat) : (catN (ps.take k)).length ≤ (catN ps).length := by
  conv => rhs; rw [← List.take_append_drop k ps]
  unfold catN
  rw [List.flatMap_append, List.length_append]; omega
/-- A list of nodes that a call hands back. -/
def NdsRet (w : World) (r : Ending) (w' : World) (xs : List Nd) : Prop :=
  ∃ A c, r = .returned (.slice A xs.length c) ∧ xs.length ≤ c ∧ c ≤ 9223372036854775807 ∧ NdSl w' w'.heap.size A xs ∧ Below w.heap.size w w'
end Go.Proofs.YtnhcjpmamgdeoaaGreatDoor
