/-
  THE WALKS of package val: shaped.
-/
import Derived.Test.YtbommoefpekalaaGreatNames
namespace Go.Proofs.YtbommoefpekalaaGreat
open Go.RowKit

set_option maxHeartbeats 1600000 in
theorem val_shaped (op n : Int) (s t : ByteArray) (w : World) (hs : s.size ≤ 140737488351232) (ht : t.size ≤ 140737488351232) :
    Calls Tryz.prog 43 #[.agg #[.int .i64 op, .int .i64 n, .string s, .string t]] w fun e w' => e = .returned (.bool (shapedV ⟨op, n, s, t⟩)) ∧ Below w.heap.size w w' := by
  go_enter Tryz.func43, Tryz.ntmps43
  go_wp2_with (first | (go_at_call 21; refine (name_Check _ _ hs).mono ?_; rintro e w1 ⟨rfl, hb⟩; obtain ⟨hc, hf⟩ := bcell hb) | (go_at_call 30; refine (name_Plain _ _ (by assumption)).mono ?_; rintro e w2 ⟨rfl, hb2⟩))
  all_goals
    go_ret
    refine ⟨ret_bool ?_, ?_⟩
    · simp only [beq_iff_eq, beq_eq_false_iff_ne] at *
      simp [shapedV, *] <;> omega
    · first
        | exact (Below.refl _ _).alloc (Nat.le_refl _) _
        | exact ((Below.refl _ _).alloc (Nat.le_refl _) _).trans (hb.mono (by simp))
        | exact ((Below.refl _ _).alloc (Nat.le_refl _) _).trans (hb2.mono (by simp))
        | exact (((Below.refl _ _).alloc (Nat.le_refl _) _).trans (hb.mono (by simp))).trans (hb2.mono (by have := hb.size; simp at this; omega))
end Go.Proofs.YtbommoefpekalaaGreat
