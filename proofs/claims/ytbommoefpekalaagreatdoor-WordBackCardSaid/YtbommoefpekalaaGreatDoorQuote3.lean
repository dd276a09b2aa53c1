/-
  THE WALKS: (*strings.Replacer).buildOnce.
-/
import Derived.Test.YtbommoefpekalaaGreatDoorQuote2
namespace Go.Proofs.YtbommoefpekalaaGreatDoor
open Go.RowKit Go.Sort

/-- Built: the table is at hand. -/
def RepDone (w : World) (lo r : Nat) (x0 x1 x2 : Value) : Prop :=
  ∃ g, Blk w r 169 #[x0, x1, x2, .iface 213 (.pointer (some ⟨g, 0, none⟩)), .slice none 0 0] ∧ RepTab w lo w.heap.size g
set_option maxRecDepth 100000 in
set_option maxHeartbeats 1600000 in
theorem rep_buildOnce (r : Nat) (w : World) (A : Option Addr) (c : Nat) (x0 x1 x2 x3 : Value) (hr : Blk w r 169 #[x0, x1, x2, x3, .slice A 4 c]) (hs : StrSl w w.heap.size A quoL) :
    Calls Tryz.prog 101 #[.pointer (some ⟨r, 0, none⟩)] w fun e w' => e = .returned (.tuple #[]) ∧ RepDone w' w.heap.size r x0 x1 x2 ∧ Only w.heap.size r w w' := by
  go_enter Tryz.func101, Tryz.ntmps101
  go_wp2_with fail
  refine (rep_build r w A c x0 x1 x2 x3 hr hs).mono ?_
  rintro e w1 ⟨g, rfl, htab, hb1⟩
  have hr1 := hr.below hb1 hr.lt
  have c3 := hr1.cell 3
  have c4 := hr1.cell 4
  have f1 := hr1.frozen
  go_wp2_with fail
  go_end0
  have hlt := hr.lt
  have hr2 := (hr1.set 3 (.iface 213 (.pointer (some ⟨g, 0, none⟩)))).set 4 (.slice none 0 0)
  refine ⟨rfl, ⟨g, ?_, ?_⟩, ?_⟩
  · exact hr2
  · rw [World.size_setCell, World.size_setCell]
    exact htab.keep (by rw [World.size_setCell, World.size_setCell]; exact Nat.le_refl _) fun g i hg _ => (World.cell?_setCell_other _ ⟨r, 4, none⟩ ⟨g, i, none⟩ _ (by simp)).trans (World.cell?_setCell_other _ ⟨r, 3, none⟩ ⟨g, i, none⟩ _ (by simp))
  · exact ((Only.of_below hb1 (Nat.le_refl _)).setCell (p := ⟨r, 3, none⟩) (.inl rfl) _).setCell (p := ⟨r, 4, none⟩) (.inl rfl) _
end Go.Proofs.YtbommoefpekalaaGreatDoor
