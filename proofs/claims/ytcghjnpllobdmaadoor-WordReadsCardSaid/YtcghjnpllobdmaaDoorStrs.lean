/-
  SLICES OF STRINGS in memory; slices.Sort and slices.Compact on a row of the call's own.
-/
import Derived.Test.YtcghjnpllobdmaaDoorNodes
import Derived.Test.YtcghjnpllobdmaaDoorMem
import Derived.Test.YtcghjnpllobdmaaDoorShelf2
import Derived.Sort.OwnSorted
namespace Go.Proofs.YtcghjnpllobdmaaDoor
open Go.RowKit Go.Sort

/-- A slice of strings, below block B. -/
def StrSl (w : World) (B : Nat) (A : Option Addr) (ss : List (List UInt8)) : Prop :=
  ss ≠ [] → ∃ b o, A = some ⟨b, o, none⟩ ∧ b < B ∧ ∀ i l, ss[i]? = some l → w.cell? ⟨b, o + i, none⟩ = some (encStr l)
theorem StrSl.nil (w : World) (B : Nat) (A : Option Addr) : StrSl w B A [] := fun h => absurd rfl h
theorem StrSl.keep {w w' : World} {B : Nat} {A : Option Addr} {ss : List (List UInt8)} (h : StrSl w B A ss) (hk : ∀ p : Addr, p.block < B → w'.cell? p = w.cell? p) : StrSl w' B A ss := fun hne => by
  obtain ⟨b, o, e, hb, hc⟩ := h hne
  exact ⟨b, o, e, hb, fun i l hl => (hk _ hb).trans (hc i l hl)⟩
theorem StrSl.below {w w' : World} {B : Nat} {A : Option Addr} {ss : List (List UInt8)} (h : StrSl w B A ss) (hb : Below B w w') : StrSl w' B A ss := h.keep fun _ hp => hb.cell hp
theorem StrSl.more {w : World} {B B' : Nat} {A : Option Addr} {ss : List (List UInt8)} (h : StrSl w B A ss) (hB : B ≤ B') : StrSl w B' A ss := fun hne => by
  obtain ⟨b, o, e, hb, hc⟩ := h hne
  exact ⟨b, o, e, Nat.lt_of_lt_of_le hb hB, hc⟩
theorem StrSl.at_ {w : World} {B : Nat} {A : Option Addr} {ss : List (List UInt8)} (h : StrSl w B A ss) {i : Nat} (hi : i < ss.length) : ∃ b o, A = some ⟨b, o, none⟩ ∧ b < B ∧ ∀ j l, ss[j]? = some l → w.cell? ⟨b, o + j, none⟩ = some (encStr l) :=
  h (by intro e; subst e; simp at hi)
theorem encStr_of (s : ByteArray) : encStr s.toList = .string s := by
  show Value.string ⟨s.toList.toArray⟩ = _
  rw [ByteArray.toList_eq]

theorem new_one (W : World) (t : TypeId) (x : Value) (g : Nat) (hg : g = W.heap.size) (j : Nat) (u : Value) (hu : [x][j]? = some u) : (W.alloc (.cells #[x] t)).cell? ((⟨g, 0, none⟩ : Addr).add j) = some u := by
  subst hg
  match j, hu with
  | 0, hu => simp at hu; subst hu; simp [Addr.add]
/-- The names, rising, each once. -/
def sorted (ss : List (List UInt8)) : List (List UInt8) := ss.mergeSort fun x y => decide (x ≤ y)
theorem sorted_len (ss : List (List UInt8)) : (sorted ss).length = ss.length := List.length_mergeSort _

theorem sort_own {w : World} {base : Nat} {v : Value} {ss : List (List UInt8)} (h : w.ownsRow base 9 1 v ss.length (ss.map encStr)) (hl : ss.length < 4611686018427387904) :
    Calls Tryd.prog 31 #[v] w fun r w' => r = .returned (.tuple #[]) ∧ w'.ownsRow base 9 1 v ss.length ((sorted ss).map encStr) ∧ w.grownBy w' v.ownBlock := by
  rcases h.2 with ⟨hv, h0⟩ | ⟨g, cap, cur, hv, hbase, hb, h1, h2, h3, h4⟩
  · subst hv
    rw [h0]
    refine (Tryd.slices_Sort_string_none none 0 w).mono ?_
    rintro r w' ⟨rfl, rfl⟩
    have : ss = [] := List.eq_nil_of_length_eq_zero h0
    subst this
    exact ⟨rfl, by simpa [sorted] using World.ownsRow_nil _ base 9 1, World.grownBy.refl _ _⟩
  · subst hv
    have hH : Holds encStr w g 0 ss.toArray := holds_of_block hb (by simpa using h4)
    refine (Tryd.slices_Sort_string g 0 cap ss w hH (Array.getElem?_eq_some_iff.1 hb).1 hl).mono ?_
    rintro r w' ⟨rfl, n, os, rfl⟩
    exact ⟨rfl, ownsRow_sorted (by simp) hbase hb h1 h2 h3, grownBy_sorted _⟩

theorem compact_own {w : World} {base : Nat} {v : Value} {ss : List (List UInt8)} (h : w.ownsRow base 9 1 v ss.length (ss.map encStr)) :
    Calls Tryd.prog 32 #[v] w fun r w' => ∃ A c, r = .returned (.slice A (Lib.compact ss).length c) ∧ (Lib.compact ss).length ≤ c ∧ c ≤ 9223372036854775807 ∧ StrSl w' w'.heap.size A (Lib.compact ss) ∧ w.grownBy w' v.ownBlock := by
  rcases h.2 with ⟨hv, h0⟩ | ⟨g, cap, cur, hv, hbase, hb, h1, h2, h3, h4⟩
  · subst hv
    refine (Tryd.slices_Compact_string_empty none 0 w).mono ?_
    rintro r w' ⟨rfl, rfl⟩
    have : ss = [] := List.eq_nil_of_length_eq_zero h0
    subst this
    have hc0 : Lib.compact ([] : List (List UInt8)) = [] := rfl
    exact ⟨none, 0, rfl, by simp [hc0], by omega, by rw [hc0]; exact StrSl.nil _ _ _, World.grownBy.refl _ _⟩
  · subst hv
    unfold maxLen at h2
    have hH : Holds encStr w g 0 ss.toArray := holds_of_block hb (by simpa using h4)
    have hg := (Array.getElem?_eq_some_iff.1 hb).1
    refine (Tryd.slices_Compact_string g 0 cap ss w hH (by omega) h1).mono ?_
    rintro r w' ⟨rfl, q, rfl⟩
    have hcl : (Lib.compact ss).length ≤ ss.length := Lib.compact_length_le ss
    refine ⟨some ⟨g, 0, none⟩, cap, rfl, by omega, by omega, ?_, ?_⟩
    · intro _
      refine ⟨g, 0, rfl, ?_, fun i l hl => ?_⟩
      · show g < (mapBlock _ _ _).heap.size
        simpa [mapBlock, Sort.ahead] using hg
      · have hi := (List.getElem?_eq_some_iff.1 hl).1
        have := cell?_putRow encStr (Sort.ahead w q) g 0 ss.toArray (Lib.compact ss ++ List.replicate (ss.length - (Lib.compact ss).length) []).toArray hH (by simp; omega) i (by simp; omega)
        rw [this]
        rw [List.getElem?_eq_getElem hi] at hl
        injection hl with hl
        simp [List.getElem?_append, hi, hl]
    · refine ⟨rfl, rfl, rfl, by simp [putRow, mapBlock, Sort.ahead], fun k hk hne => ?_⟩
      have : g ≠ k := fun e => hne (by rw [e]; rfl)
      simp [putRow, mapBlock, Sort.ahead, Array.getElem?_modify, this]
end Go.Proofs.YtcghjnpllobdmaaDoor
