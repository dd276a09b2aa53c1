/-
  THE WALKS of the reference: Quoted; Spelt.
-/
import Derived.Test.YtbggbcnfkcadjaaGreatDoorPe13
import Derived.Test.YtbggbcnfkcadjaaGreatDoorPe05
namespace Go.Proofs.YtbggbcnfkcadjaaGreatDoor
open Go.RowKit
theorem esc_step (acc : List UInt8) (c : UInt8) (s : ByteArray) (k : Nat) (hk : k < s.size) (hc : s[k] = c) (hq : escB c = true) : bsOf acc ++ ⟨#[92]⟩ ++ s.extract k (k + 1) = bsOf (acc ++ esc1 c) := by
 have e : bsOf acc ++ ⟨#[92]⟩ = bsOf (acc ++ [92]) := by
   refine bs_eq ?_
   rw [ByteArray.toList_eq, ByteArray.data_append, Array.toList_append]; rfl
 rw [e, bs_snoc _ c s k hk hc, esc1, if_pos hq, List.append_assoc]; rfl
set_option maxRecDepth 100000 in
set_option maxHeartbeats 1600000 in
theorem r1_Quoted (s : ByteArray) (w : World) (hs : s.size ≤ 140737488351232) :
   Calls Tryz.prog 34 #[.string s] w fun e w' => e = .returned (.string (bsOf (34 :: (escP s.toList ++ [34])))) ∧ w = w' := by
 go_enter Tryz.func34, Tryz.ntmps34
 go_wp2_with fail
 go_loop [3, 4] (fun oo ii => ∃ (k : Nat) (bl : ByteArray), k ≤ s.size ∧ ii = .int .i64 k ∧ oo = .string bl ∧ Hid (bl = bsOf (34 :: escP (s.toList.take k)))) (fun _ ii => s.size - (intOf ii).toNat)
 case atStart => exact ⟨0, _, by omega, rfl, rfl, by simp [Hid, escP]; rfl⟩
 case round =>
   obtain ⟨k, bl, hk, rfl, rfl, HB⟩ := hrel
   have hbl : bl.size ≤ 2 * s.size + 1 := by
     rw [HB.out, bsOf_sz, List.length_cons]
     have := escP_bound (s.toList.take k)
     rw [List.length_take, toList_len] at this
     omega
   by_cases hlt : k < s.size
   · have hg := toList_get s k hlt
     have HT : Hid (s.toList.take (k + 1) = s.toList.take k ++ [s[k]]) := by show _ = _; rw [List.take_add_one, hg]; rfl
     clear hg
     by_cases hq : escB s[k] = true
     · have HQ := Lib.hid hq
       by_cases h34 : s[k] = 34
       · have t34 : ((s[k].toNat : Int) == 34) = true := beq_lit h34
         clear hq h34
         go_wp2_with fail
         go_round
         case rel =>
           refine ⟨k + 1, _, by omega, by go_num, rfl, ?_⟩
           show _ = _
           rw [HB.out, esc_step _ s[k] s k hlt rfl HQ.out, HT.out, escP_snoc]; rfl
         case measure => simp [intOf]; omega
       · have t34 : ((s[k].toNat : Int) == 34) = false := bne_lit h34
         have h92 : s[k] = 92 := by have : s[k] = 34 ∨ s[k] = 92 := by simpa [escB] using hq
                                    exact this.resolve_left h34
         have t92 : ((s[k].toNat : Int) == 92) = true := beq_lit h92
         clear hq h34 h92
         go_wp2_with fail
         go_round
         case rel =>
           refine ⟨k + 1, _, by omega, by go_num, rfl, ?_⟩
           show _ = _
           rw [HB.out, esc_step _ s[k] s k hlt rfl HQ.out, HT.out, escP_snoc]; rfl
         case measure => simp [intOf]; omega
     · have hh : ¬ (s[k] = 34 ∨ s[k] = 92) := by simpa [escB] using hq
       have t34 : ((s[k].toNat : Int) == 34) = false := bne_lit (fun h => hh (.inl h))
       have t92 : ((s[k].toNat : Int) == 92) = false := bne_lit (fun h => hh (.inr h))
       have HQ := Lib.hid hq
       clear hq hh
       go_wp2_with fail
       go_round
       case rel =>
         refine ⟨k + 1, _, by omega, by go_num, rfl, ?_⟩
         show _ = _
         rw [HB.out, bs_snoc _ s[k] s k hlt rfl, HT.out, escP_snoc, esc1, if_neg HQ.out]; rfl
       case measure => simp [intOf]; omega
   · have hks : k = s.size := by omega
     subst hks
     have HA : Hid (s.toList.take s.size = s.toList) := List.take_of_length_le (by rw [toList_len]; omega)
     go_wp2_with fail
     go_ret
     refine ⟨ret_val ?_, rfl⟩
     rw [HB.out, HA.out]
     congr 1
end Go.Proofs.YtbggbcnfkcadjaaGreatDoor
