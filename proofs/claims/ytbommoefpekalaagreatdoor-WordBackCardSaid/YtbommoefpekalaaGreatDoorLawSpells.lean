/-
  THE WALK of the law WordSpells.
-/
import Derived.Test.YtbommoefpekalaaGreatDoorRef15
import Derived.Test.YtbommoefpekalaaGreatDoorTokEq
import Derived.Test.YtbommoefpekalaaGreatDoorSpPlain3
import Derived.Test.YtbommoefpekalaaGreatDoorTold
namespace Go.Proofs.YtbommoefpekalaaGreatDoor
open Go.RowKit

theorem spelt_name : speltP ⟨1, ⟨#[97]⟩, 0⟩ = ([97], true) := by
  have e : (⟨#[97]⟩ : ByteArray).toList = [97] := by rw [ByteArray.toList_eq]
  have h : (speltP ⟨1, ⟨#[97]⟩, 0⟩).2 = true := by
    rw [speltP_bare (by decide) (by decide)]
    show bareP 1 (⟨#[97]⟩ : ByteArray).toList = true
    rw [e]; decide
  refine Prod.ext ?_ h
  rw [speltP_fst h, speltT, if_neg (by decide), if_neg (by decide)]
  exact e
theorem fact_spells : spellP [⟨1, ⟨#[97]⟩, 0⟩] = ([97], 0) := by
  unfold spellP
  rw [if_neg (by decide)]
  simp only [List.all_cons, List.all_nil, List.map_cons, List.map_nil, spelt_name, joinP_one]
  rfl
set_option maxRecDepth 100000 in
set_option maxHeartbeats 4000000 in
theorem law_spells (xs : List Tk) (A : Option Addr) (c : Nat) (w : World) (hg : ErrCell w) (hs : TkSl w w.heap.size A xs) (hl : xs.length ≤ 9223372036854775807) (hz : ∀ x ∈ xs, x.s.size ≤ 140737488351232) :
    Calls Tryz.prog 3 #[.slice A xs.length c] w fun r w' => r = .returned (.bool true) ∧ Below w.heap.size w w' := by
  have hlt := hg.lt
  have HG := Lib.hid hg
  have HS := Lib.hid hs
  have HZ := Lib.hid hz
  have HF := Lib.hid (fun (W : World) (A : Option Addr) (c : Nat) h => word_Spell [⟨1, ⟨#[97]⟩, 0⟩] A c W h (by decide) (by intro x hx; rw [List.mem_singleton] at hx; subst hx; decide))
  rw [fact_spells] at HF
  have HR1 := Lib.hid (fun (W : World) h => r2_Spelling xs A c W h hl hz)
  have HR2 := Lib.hid (fun (W : World) h => word_Spell xs A c W h hl hz)
  obtain ⟨l, k, hx⟩ : ∃ l k, spellP xs = (l, k) := ⟨_, _, rfl⟩
  obtain ⟨x, hl'⟩ : ∃ x, encStr l = .string x := ⟨_, rfl⟩
  rw [hx] at HR1 HR2
  have HR1 : Hid (∀ W, TkSl W W.heap.size A xs → Calls Tryz.prog 8 #[.slice A xs.length c] W fun e w' => e = .returned (.tuple #[.string x, .int .i64 k]) ∧ Below W.heap.size W w') := by rw [← hl']; exact HR1
  have HR2 : Hid (∀ W, TkSl W W.heap.size A xs → Calls Tryz.prog 7 #[.slice A xs.length c] W fun e w' => e = .returned (.tuple #[.string x, errV k]) ∧ Below W.heap.size W w') := by rw [← hl']; exact HR2
  clear hg hs hz hx hl'
  go_enter Tryz.func3, Tryz.ntmps3
  go_wp2_with fail
  refine Calls.mono (HF.out _ _ _ ((new_SlG tk_ok w _ [⟨1, ⟨#[97]⟩, 0⟩] _ rfl).more (by simp))) ?_
  rintro r w1 ⟨rfl, hb1⟩
  have hw1 : Below w.heap.size w w1 := ((Below.refl _ w).alloc (Nat.le_refl _) _).trans (hb1.mono (by simp))
  clear hb1
  go_wp2_with fail
  refine Calls.mono (HR1.out _ (HS.out.later hw1)) ?_
  rintro r w2 ⟨rfl, hb2⟩
  have hw2 : Below w.heap.size w w2 := hw1.trans (hb2.mono hw1.size)
  clear hb2 hw1
  go_wp2_with fail
  refine Calls.mono (HR2.out _ (HS.out.later hw2)) ?_
  rintro r w3 ⟨rfl, hb3⟩
  have hw3 : Below w.heap.size w w3 := hw2.trans (hb3.mono hw2.size)
  clear hb3 hw2
  go_wp2_with fail
  refine Calls.mono (same_Error k w3 (HG.out.below hw3 hlt)) ?_
  rintro r w4 ⟨rfl, hb4⟩
  go_wp2_with fail
  go_ret
  exact ⟨rfl, hw3.trans (hb4.mono hw3.size)⟩
end Go.Proofs.YtbommoefpekalaaGreatDoor
