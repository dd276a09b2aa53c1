/-
  SLICES OF STRINGS in memory.
-/
import Derived.Test.YtbommoefpekalaaGreatNodes
import Derived.Test.YtbommoefpekalaaGreatMem
import Derived.Sort.OwnSorted
namespace Go.Proofs.YtbommoefpekalaaGreat
open Go.RowKit Go.Sort

/-- A slice of strings, below block B. -/
def StrSl (w : World) (B : Nat) (A : Option Addr) (ss : List (List UInt8)) : Prop :=
  ss ≠ [] → ∃ b o, A = some ⟨b, o, none⟩ ∧ b < B ∧ ∀ i l, ss[i]? = some l → w.cell? ⟨b, o + i, none⟩ = some (encStr l)
theorem StrSl.nil (w : World) (B : Nat) (A : Option Addr) : StrSl w B A [] := fun h => absurd rfl h
theorem StrSl.keep {w w' : World} {B : Nat} {A : Option Addr} {ss : List (List UInt8)} (h : StrSl w B A ss) (hk : ∀ p : Addr, p.block < B → w'.cell? p = w.cell? p) : StrSl w' B A ss := fun hne => by
  obtain ⟨b, o, e, hb, hc⟩ := h hne
  exact ⟨b, o, e, hb, fun i l hl => (hk _ hb).trans (hc i l hl)⟩
theorem StrSl.below {w w' : World} {B : Nat} {A : Option Addr} {ss : List (List UInt8)} (h : StrSl w B A ss) (hb : Below B w w') : StrSl w' B A ss := h.keep fun _ hp => hb.cell hp
theorem StrSl.more {w : World} {B B' : Nat} {A : Option Addr} {ss : List (List UInt8)} (h : StrSl w B A ss) (hB : B ≤ B') : StrSl w B' A ss := fun hne => by
  obtain ⟨b, o, e, hb, hc⟩ := h hne
  exact ⟨b, o, e, Nat.lt_of_lt_of_le hb hB, hc⟩
theorem StrSl.at_ {w : World} {B : Nat} {A : Option Addr} {ss : List (List UInt8)} (h : StrSl w B A ss) {i : Nat} (hi : i < ss.length) : ∃ b o, A = some ⟨b, o, none⟩ ∧ b < B ∧ ∀ j l, ss[j]? = some l → w.cell? ⟨b, o + j, none⟩ = some (encStr l) :=
  h (by intro e; subst e; simp at hi)
theorem encStr_of (s : ByteArray) : encStr s.toList = .string s := by
  show Value.string ⟨s.toList.toArray⟩ = _
  rw [ByteArray.toList_eq]

theorem new_one (W : World) (t : TypeId) (x : Value) (g : Nat) (hg : g = W.heap.size) (j : Nat) (u : Value) (hu : [x][j]? = some u) : (W.alloc (.cells #[x] t)).cell? ((⟨g, 0, none⟩ : Addr).add j) = some u := by
  subst hg
  match j, hu with
  | 0, hu => simp at hu; subst hu; simp [Addr.add]
end Go.Proofs.YtbommoefpekalaaGreat
