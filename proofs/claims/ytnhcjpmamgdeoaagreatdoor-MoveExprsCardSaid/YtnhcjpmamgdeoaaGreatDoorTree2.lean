/-
  THE WALKS of package tree: parts.
  THE WALKS: tree.shaped.
-/
import Derived.Test.YtnhcjpmamgdeoaaGreatDoorVal8
namespace Go.Proofs.YtnhcjpmamgdeoaaGreatDoor
open Go.RowKit

set_option maxHeartbeats 1600000 in
theorem tree_parts (op n : Int) (s t : ByteArray) (w : World) :
    Calls Tryz.prog 87 #[.agg #[.int .i64 op, .int .i64 n, .string s, .string t]] w fun e w' => e = .returned (.int .i64 (ndParts ⟨op, n, s, t⟩)) ∧ Below w.heap.size w w' := by
  go_enter Tryz.func87, Tryz.ntmps87
  go_wp2
  all_goals
    go_ret
    refine ⟨ret_int ?_, (Below.refl _ _).alloc (Nat.le_refl _) _⟩
    simp only [beq_iff_eq, beq_eq_false_iff_ne] at *
    simp [ndParts, *]
set_option maxHeartbeats 1600000 in
theorem tree_Reserved (s : ByteArray) (w : World) :
    Calls Tryz.prog 121 #[.string s] w fun e w' => e = .returned (.bool (reserved s.toList)) ∧ w = w' := by
  go_enter Tryz.func121, Tryz.ntmps121
  go_wp2
  all_goals
    go_ret
    refine ⟨ret_bool ?_, rfl⟩
    first | (simp [reserved, *]; done) | simp_all

set_option maxHeartbeats 1600000 in
theorem tree_variable (s : ByteArray) (w : World) (hs : s.size ≤ 140737488351232) :
    Calls Tryz.prog 106 #[.string s] w fun e w' => e = .returned (.bool (variableB s.toList)) ∧ Below w.heap.size w w' := by
  by_cases h0 : 0 < s.size
  · have h0' : s.toList.isEmpty = false := toList_ne h0
    obtain ⟨l, hl0⟩ := toList_cons h0
    have HL := Lib.hid hl0
    have hx := extract_one s
    have HX : Hid ((s.extract 1 s.size).toList = l) := by rw [hl0] at hx; exact hx
    have hxs := extract_size s
    have HXS := Lib.hid hxs
    clear hl0 hx hxs
    by_cases hq : s[0] = 63
    · have hqi : ((s[0].toNat : Int) == 63) = true := by rw [hq]; rfl
      go_enter Tryz.func106, Tryz.ntmps106
      go_wp2_with (go_at_call 27; refine (name_Check _ _ (by have := HXS.out; omega)).mono ?_; rintro e w1 ⟨rfl, hb1⟩)
      go_ret
      exact ⟨ret_bool (by rw [HX.out, HL.out]; simp [variableB, hq]), hb1⟩
    · have hqi : ((s[0].toNat : Int) == 63) = false := by
        rw [beq_eq_false_iff_ne]; intro hc; apply hq; apply UInt8.toNat_inj.1; simp; omega
      have HV : Hid (variableB s.toList = (nameErr s.toList == 0 && !reserved s.toList)) := by show _ = _; rw [HL.out]; simp [variableB, hq]
      go_enter Tryz.func106, Tryz.ntmps106
      go_wp2_with (first | (go_at_call 27; refine (name_Check s _ hs).mono ?_; rintro e w1 ⟨rfl, hb1⟩) | (go_at_call 121; refine (tree_Reserved s _).mono ?_; rintro e w2 ⟨rfl, rfl⟩))
      all_goals
        go_ret
        refine ⟨ret_bool ?_, hb1⟩
        rw [HV.out]
        simp [*]
  · have h0' := toList_nil h0
    have h0'' : s.toList.isEmpty = true := by rw [h0']; rfl
    have HL := Lib.hid h0'
    clear h0'
    have HV : Hid (variableB s.toList = (nameErr s.toList == 0 && !reserved s.toList)) := by show _ = _; rw [HL.out]; rfl
    go_enter Tryz.func106, Tryz.ntmps106
    go_wp2_with (first | (go_at_call 27; refine (name_Check s _ hs).mono ?_; rintro e w1 ⟨rfl, hb1⟩) | (go_at_call 121; refine (tree_Reserved s _).mono ?_; rintro e w2 ⟨rfl, rfl⟩))
    all_goals
      go_ret
      refine ⟨ret_bool ?_, hb1⟩
      rw [HV.out]
      simp [*]
end Go.Proofs.YtnhcjpmamgdeoaaGreatDoor
namespace Go.Proofs.YtnhcjpmamgdeoaaGreatDoor
open Go.RowKit

set_option maxRecDepth 100000 in
set_option maxHeartbeats 4000000 in
theorem tree_shaped (op n : Int) (s t : ByteArray) (w : World) (hs : s.size ≤ 140737488351232) (ht : t.size ≤ 140737488351232) :
    Calls Tryz.prog 86 #[.agg #[.int .i64 op, .int .i64 n, .string s, .string t]] w fun e w' => e = .returned (.bool (shapedT ⟨op, n, s, t⟩)) ∧ Below w.heap.size w w' := by
  have hx : NdAt ((w.alloc (.cells #[.int .i64 op, .int .i64 n, .string s, .string t] 40)).alloc (.cells #[.int .i64 op, .int .i64 n, .string s, .string t] 40)) (w.heap.size + 1) 0 ⟨op, n, s, t⟩ := by
    constructor <;> simp [go_sem]
  have HX := Lib.hid hx
  clear hx
  go_enter Tryz.func86, Tryz.ntmps86
  go_wp2_with (first
    | (go_at_call 27; refine (name_Check _ _ hs).mono ?_; rintro e w1 ⟨rfl, hb1⟩)
    | (go_at_call 107; refine (name_Plain _ _ hs).mono ?_; rintro e w1 ⟨rfl, hb1⟩)
    | (go_at_call 106; refine (tree_variable _ _ hs).mono ?_; rintro e w1 ⟨rfl, hb1⟩)
    | (go_at_call 33; refine (val_Check1 ⟨op, n, s, t⟩ _ _ HX.out (by simp) hs ht).mono ?_; rintro e w1 ⟨rfl, hb1⟩)
    | (go_at_call 87; refine (tree_parts _ _ _ _ _).mono ?_; rintro e w1 ⟨rfl, hb1⟩; obtain ⟨hcc, hff⟩ := bcell hb1))
  all_goals
    go_ret
    refine ⟨ret_bool ?_, ?_⟩
    · simp only [beq_iff_eq, beq_eq_false_iff_ne] at *
      clear HX
      simp [shapedT, *]
      all_goals first | omega | (intros; omega) | (intros; subst_vars; assumption)
    · first
        | exact (Below.refl _ _).alloc (Nat.le_refl _) _
        | exact ((Below.refl _ _).alloc (Nat.le_refl _) _).trans (hb1.mono (by simp))
        | exact (((Below.refl _ _).alloc (Nat.le_refl _) _).alloc (by simp) _).trans (hb1.mono (by simp; omega))
end Go.Proofs.YtnhcjpmamgdeoaaGreatDoor
