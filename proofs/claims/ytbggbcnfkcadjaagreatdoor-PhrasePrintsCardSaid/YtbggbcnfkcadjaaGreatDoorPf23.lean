/-
  THE WALKS of the reference: nodes.
-/
import Derived.Test.YtbggbcnfkcadjaaGreatDoorPf08
import Derived.Test.YtbggbcnfkcadjaaGreatDoorPf01
namespace Go.Proofs.YtbggbcnfkcadjaaGreatDoor
open Go.RowKit
def uidErr (s t : List UInt8) : Int := if nameErr s = 0 then textErr t else nameErr s
set_option maxRecDepth 100000 in
set_option maxHeartbeats 400000 in
theorem r1_UidFault (s t : ByteArray) (w : World) (hs : s.size ≤ 140737488351232) (ht : t.size ≤ 140737488351232) :
   Calls Tryz.prog 148 #[.agg #[.string s, .string t]] w fun e w' => e = .returned (.int .i64 (uidErr s.toList t.toList)) ∧ Below w.heap.size w w' := by
 by_cases h0 : nameErr s.toList = 0
 · have HU : Hid (uidErr s.toList t.toList = textErr t.toList) := by show _ = _; unfold uidErr; rw [if_pos h0]
   have HN := Lib.hid h0
   have hc : ∀ W, Calls Tryz.prog 36 #[.string s] W fun e w' => e = .returned (.int .i64 0) ∧ W = w' := fun W => by
     have := r1_NameFault s W hs; rwa [h0] at this
   clear h0
   go_enter Tryz.func148, Tryz.ntmps148
   go_wp2_with (first | (go_at_call 36; refine (hc _).mono ?_; rintro e w' ⟨rfl, rfl⟩) | (go_at_call 35; refine (r1_TextFault _ _ ht).mono ?_; rintro e w' ⟨rfl, rfl⟩))
   go_ret
   exact ⟨ret_int HU.out.symm, by (repeat (first | assumption | exact Below.refl _ _ | apply Below.drew | apply below_drewN | (refine Below.alloc ?_ (by first | exact Nat.le_refl _ | omega | (simp; done) | (simp; omega)) _)))⟩
 · have hne : (nameErr s.toList == 0) = false := by simp [h0]
   have HU : Hid (uidErr s.toList t.toList = nameErr s.toList) := by show _ = _; unfold uidErr; rw [if_neg h0]
   clear h0
   go_enter Tryz.func148, Tryz.ntmps148
   go_wp2_with (first | (go_at_call 36; refine (r1_NameFault s _ hs).mono ?_; rintro e w' ⟨rfl, rfl⟩) | (go_at_call 35; refine (r1_TextFault _ _ ht).mono ?_; rintro e w' ⟨rfl, rfl⟩))
   go_ret
   exact ⟨ret_int HU.out.symm, by (repeat (first | assumption | exact Below.refl _ _ | apply Below.drew | apply below_drewN | (refine Below.alloc ?_ (by first | exact Nat.le_refl _ | omega | (simp; done) | (simp; omega)) _)))⟩
theorem uidErr_zero (s t : List UInt8) : (uidErr s t == 0) = (nameErr s == 0 && textErr t == 0) := by
 unfold uidErr
 split
 · rename_i h; simp [h]
 · rename_i h; simp [h]
set_option maxRecDepth 100000 in
set_option maxHeartbeats 1600000 in
theorem r1_ValueNode (op n : Int) (s t : ByteArray) (w : World) (hs : s.size ≤ 140737488351232) (ht : t.size ≤ 140737488351232) :
   Calls Tryz.prog 119 #[.agg #[.int .i64 op, .int .i64 n, .string s, .string t]] w fun e w' => e = .returned (.bool (shapedV ⟨op, n, s, t⟩)) ∧ Below w.heap.size w w' := by
 have hcase : op = 1 ∨ op = 2 ∨ op = 3 ∨ op = 4 ∨ op = 5 ∨ op = 6 ∨ op = 7 ∨ ((op == 1) = false ∧ (op == 2) = false ∧ (op == 3) = false ∧ (op == 4) = false ∧ (op == 5) = false ∧ (op == 6) = false ∧ (op == 7) = false) := by
   simp only [beq_eq_false_iff_ne]; omega
 rcases hcase with rfl | rfl | rfl | rfl | rfl | rfl | rfl | ⟨e1, e2, e3, e4, e5, e6, e7⟩
 all_goals
   go_enter Tryz.func119, Tryz.ntmps119
   go_wp2_with (first | (go_at_call 36; refine (r1_NameFault _ _ hs).mono ?_; rintro e w' ⟨rfl, rfl⟩) | (go_at_call 35; refine (r1_TextFault _ _ hs).mono ?_; rintro e w' ⟨rfl, rfl⟩) | (go_at_call 148; refine (r1_UidFault _ _ _ hs ht).mono ?_; rintro e w1 ⟨rfl, hb⟩; obtain ⟨hc, hf⟩ := bcell hb))
 all_goals
   go_ret
   refine ⟨ret_bool ?_, ?_⟩
   · try simp only [beq_eq_false_iff_ne, bne_iff_ne, bne_eq_false_iff_eq] at *
     first
       | (simp [shapedV, uidErr_zero, *]; done)
       | (rw [Bool.eq_iff_iff]; simp [shapedV, *]; omega)
       | (rw [Bool.eq_iff_iff]; simp [shapedV, uidErr_zero, *]; done)
   · first
       | exact (Below.refl _ _).alloc (Nat.le_refl _) _
       | exact ((Below.refl _ _).alloc (Nat.le_refl _) _).trans (hb.mono (by simp))
set_option maxRecDepth 100000 in
set_option maxHeartbeats 1600000 in
theorem r2_Reserved (s : ByteArray) (w : World) :
   Calls Tryz.prog 120 #[.string s] w fun e w' => e = .returned (.bool (reserved s.toList)) ∧ w = w' := by
 go_enter Tryz.func120, Tryz.ntmps120
 go_wp2
 all_goals
   go_ret
   refine ⟨ret_bool ?_, rfl⟩
   first | (simp [reserved, *]; done) | simp_all
set_option maxRecDepth 100000 in
set_option maxHeartbeats 1600000 in
theorem r2_Parts (op n : Int) (s t : ByteArray) (w : World) :
   Calls Tryz.prog 86 #[.agg #[.int .i64 op, .int .i64 n, .string s, .string t]] w fun e w' => e = .returned (.int .i64 (ndParts ⟨op, n, s, t⟩)) ∧ Below w.heap.size w w' := by
 go_enter Tryz.func86, Tryz.ntmps86
 go_wp2
 all_goals
   go_ret
   refine ⟨ret_int ?_, (Below.refl _ _).alloc (Nat.le_refl _) _⟩
   try simp only [beq_iff_eq, beq_eq_false_iff_ne] at *
   simp only [ndParts]
   repeat' split
   all_goals omega
end Go.Proofs.YtbggbcnfkcadjaaGreatDoor
