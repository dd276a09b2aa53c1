/-
  THE WALKS: plain.Told, same.Error.
-/
import Derived.Test.YtnhcjpmamgdeoaaDoorAs2
namespace Go.Proofs.YtnhcjpmamgdeoaaDoor
open Go.RowKit

/-- What the condition gives a walk: the cell of errors.errorType. -/
def ErrCell (w : World) : Prop := w.cell? ⟨0, 0, none⟩ = some (.iface 107 (.agg #[.pointer (some ⟨2, 32, none⟩)]))
theorem ErrCell.lt {w : World} (h : ErrCell w) : 0 < w.heap.size := by
  rcases Nat.lt_or_ge 0 w.heap.size with h' | h'
  · exact h'
  · unfold ErrCell at h; simp [World.cell?, Array.getElem?_eq_none h'] at h
theorem ErrCell.below {w w' : World} {B : Nat} (h : ErrCell w) (hb : Below B w w') (hB : 0 < B) : ErrCell w' := (hb.cell (p := ⟨0, 0, none⟩) hB).trans h

set_option maxRecDepth 100000 in
set_option maxHeartbeats 1600000 in
theorem plain_Told (k : Int) (w : World) (hg : ErrCell w) :
    Calls Tryd.prog 22 #[errV k] w fun e w' => e = .returned (.int .i64 k) ∧ Below w.heap.size w w' := by
  by_cases h0 : k = 0
  · subst h0
    go_enter Tryd.func22, Tryd.ntmps22
    go_wp2_with fail
    go_ret
    exact ⟨rfl, Below.refl _ _⟩
  · rw [errV_pos h0]
    have hlt := hg.lt
    have H := Lib.hid (as_hit k ⟨w.heap.size, 0, none⟩ (.int .i64 0) (w.alloc (.cells #[.int .i64 0] 25)) (by rw [World.cell?_alloc_lt _ _ ⟨0, 0, none⟩ hlt]; exact hg) (by simp) (by simp))
    clear hg
    go_enter Tryd.func22, Tryd.ntmps22
    go_wp2_with fail
    refine Calls.mono H.out ?_
    rintro r w1 ⟨rfl, hw⟩
    have hc : w1.cell? ⟨w.heap.size, 0, none⟩ = some (.int .i64 k) := by rw [hw]; simp [go_sem]
    have hb : Below w.heap.size w w1 := by
      rw [hw]
      exact Below.setCell (B := w.heap.size) (p := ⟨w.heap.size, 0, none⟩) (by (repeat (first | assumption | exact Below.refl _ _ | apply Below.drew | apply below_drewN | (refine Below.alloc ?_ (by first | exact Nat.le_refl _ | omega | (simp; done) | (simp; omega)) _)))) (Nat.le_refl _) _
    clear hw
    go_wp2_with fail
    go_ret
    exact ⟨rfl, hb⟩
set_option maxRecDepth 100000 in
set_option maxHeartbeats 1600000 in
theorem same_Error (k : Int) (w : World) (hg : ErrCell w) :
    Calls Tryd.prog 10 #[errV k, .int .i64 k] w fun e w' => e = .returned (.bool true) ∧ Below w.heap.size w w' := by
  have H := Lib.hid (plain_Told k w hg)
  have hk : (k == k) = true := by simp
  clear hg
  go_enter Tryd.func10, Tryd.ntmps10
  go_wp2_with fail
  refine Calls.mono H.out ?_
  rintro r w1 ⟨rfl, hb⟩
  go_wp2_with fail
  go_ret
  exact ⟨rfl, hb⟩
end Go.Proofs.YtnhcjpmamgdeoaaDoor
