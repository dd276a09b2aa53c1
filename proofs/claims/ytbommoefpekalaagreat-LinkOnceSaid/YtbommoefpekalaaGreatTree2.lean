/-
  THE WALKS: tree.shaped.
-/
import Derived.Test.YtbommoefpekalaaGreatTree1
namespace Go.Proofs.YtbommoefpekalaaGreat
open Go.RowKit

set_option maxRecDepth 100000 in
set_option maxHeartbeats 4000000 in
theorem tree_shaped (op n : Int) (s t : ByteArray) (w : World) (hs : s.size ≤ 140737488351232) (ht : t.size ≤ 140737488351232) :
    Calls Tryz.prog 28 #[.agg #[.int .i64 op, .int .i64 n, .string s, .string t]] w fun e w' => e = .returned (.bool (shapedT ⟨op, n, s, t⟩)) ∧ Below w.heap.size w w' := by
  have hx : NdAt ((w.alloc (.cells #[.int .i64 op, .int .i64 n, .string s, .string t] 53)).alloc (.cells #[.int .i64 op, .int .i64 n, .string s, .string t] 53)) (w.heap.size + 1) 0 ⟨op, n, s, t⟩ := by
    constructor <;> simp [go_sem]
  have HX := Lib.hid hx
  clear hx
  go_enter Tryz.func28, Tryz.ntmps28
  go_wp2_with (first
    | (go_at_call 21; refine (name_Check _ _ hs).mono ?_; rintro e w1 ⟨rfl, hb1⟩)
    | (go_at_call 30; refine (name_Plain _ _ hs).mono ?_; rintro e w1 ⟨rfl, hb1⟩)
    | (go_at_call 34; refine (tree_variable _ _ hs).mono ?_; rintro e w1 ⟨rfl, hb1⟩)
    | (go_at_call 33; refine (val_Check1 ⟨op, n, s, t⟩ _ _ HX.out (by simp) hs ht).mono ?_; rintro e w1 ⟨rfl, hb1⟩)
    | (go_at_call 29; refine (tree_parts _ _ _ _ _).mono ?_; rintro e w1 ⟨rfl, hb1⟩; obtain ⟨hcc, hff⟩ := bcell hb1))
  all_goals
    go_ret
    refine ⟨ret_bool ?_, ?_⟩
    · simp only [beq_iff_eq, beq_eq_false_iff_ne] at *
      clear HX
      simp [shapedT, *]
      all_goals first | omega | (intros; omega) | (intros; subst_vars; assumption)
    · first
        | exact (Below.refl _ _).alloc (Nat.le_refl _) _
        | exact ((Below.refl _ _).alloc (Nat.le_refl _) _).trans (hb1.mono (by simp))
        | exact (((Below.refl _ _).alloc (Nat.le_refl _) _).alloc (by simp) _).trans (hb1.mono (by simp; omega))
end Go.Proofs.YtbommoefpekalaaGreat
