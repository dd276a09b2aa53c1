/-
  THE WALKS of the reference: numbers and texts compared.
-/
import Derived.Test.YtnhcjpmamgdeoaaGreatDoorRef1
namespace Go.Proofs.YtnhcjpmamgdeoaaGreatDoor
open Go.RowKit

set_option maxRecDepth 100000 in
set_option maxHeartbeats 400000 in
theorem r1_Numbers (a b : Int) (w : World) :
    Calls Tryz.prog 85 #[.int .i64 a, .int .i64 b] w fun e w' => e = .returned (.int .i64 (cmpI a b)) ∧ w = w' := by
  go_enter Tryz.func85, Tryz.ntmps85
  go_wp2
  all_goals (go_ret; exact ⟨ret_int (by simp [cmpI, *] <;> omega), rfl⟩)
set_option maxRecDepth 100000 in
set_option maxHeartbeats 400000 in
theorem r1_Texts (a b : ByteArray) (w : World) (ha : a.size ≤ 140737488351232) (hb : b.size ≤ 140737488351232) :
    Calls Tryz.prog 57 #[.string a, .string b] w fun e w' => e = .returned (.int .i64 (Lib.compareBytes a.data.toList b.data.toList)) ∧ Below w.heap.size w w' := by
  go_enter Tryz.func57, Tryz.ntmps57
  go_wp2_with fail
  go_loopw [5] (fun i wr => ∃ k : Nat, i = .int .i64 k ∧ k ≤ a.size ∧ k ≤ b.size ∧ Hid (Lib.compareBytes (a.toList.drop k) (b.toList.drop k) = Lib.compareBytes a.data.toList b.data.toList) ∧ Below w.heap.size w wr) (fun i _ => a.size - (intOf i).toNat)
  case atStart => exact ⟨0, rfl, by omega, by omega, by simp [Hid, ByteArray.toList_eq], Below.refl _ _⟩
  case round =>
    obtain ⟨k, rfl, hka, hkb, HK, hbr⟩ := hrel
    by_cases h1 : k < a.size
    · by_cases h2 : k < b.size
      · have hca := toList_drop a k h1
        have hcb := toList_drop b k h2
        have HC : Hid ((if a[k] < b[k] then -1 else if b[k] < a[k] then 1 else Lib.compareBytes (a.toList.drop (k + 1)) (b.toList.drop (k + 1))) = Lib.compareBytes a.data.toList b.data.toList) := by
          show _ = _
          rw [← HK.out, hca, hcb]; rfl
        clear hca hcb HK
        by_cases h3 : a[k] < b[k]
        · have h3i : (a[k].toNat : Int) < (b[k].toNat : Int) := by
            have := UInt8.lt_iff_toNat_lt.1 h3
            omega
          rw [if_pos h3] at HC
          clear h3
          go_wp2_with fail
          go_quiet (fail)
          go_wp2_with fail
          go_ret
          exact ⟨ret_int HC.out, below_drewN hbr _⟩
        · have h3i : ¬ (a[k].toNat : Int) < (b[k].toNat : Int) := by
            have : ¬ a[k].toNat < b[k].toNat := fun h => h3 (UInt8.lt_iff_toNat_lt.2 h)
            omega
          rw [if_neg h3] at HC
          clear h3
          by_cases h4 : b[k] < a[k]
          · have h4i : (b[k].toNat : Int) < (a[k].toNat : Int) := by
              have := UInt8.lt_iff_toNat_lt.1 h4
              omega
            rw [if_pos h4] at HC
            clear h4
            go_wp2_with fail
            go_quiet (fail)
            go_wp2_with fail
            go_quiet (fail)
            go_wp2_with fail
            go_ret
            exact ⟨ret_int HC.out, below_drewN (below_drewN hbr _) _⟩
          · have h4i : ¬ (b[k].toNat : Int) < (a[k].toNat : Int) := by
              have : ¬ b[k].toNat < a[k].toNat := fun h => h4 (UInt8.lt_iff_toNat_lt.2 h)
              omega
            rw [if_neg h4] at HC
            clear h4
            go_wp2_with fail
            go_quiet (fail)
            go_wp2_with fail
            go_quiet (fail)
            go_wp2_with fail
            exact ⟨⟨k + 1, by go_num, by omega, by omega, HC, below_drewN hbr _⟩, by simp [intOf]; omega⟩
      · have HE : Hid (cmpI a.size b.size = Lib.compareBytes a.data.toList b.data.toList) := by
          show _ = _
          rw [← HK.out, toList_drop a k h1, drop_none b k (by omega)]
          have : ¬ ((a.size : Int) < b.size) := by omega
          have h5 : ((b.size : Int) < a.size) := by omega
          simp [cmpI, this, h5, Lib.compareBytes]
        go_wp2_with (go_at_call 85; refine (r1_Numbers _ _ _).mono ?_; rintro e w' ⟨rfl, rfl⟩)
        go_ret
        exact ⟨ret_int HE.out, hbr⟩
    · have HE : Hid (cmpI a.size b.size = Lib.compareBytes a.data.toList b.data.toList) := by
        show _ = _
        rw [← HK.out, drop_none a k (by omega)]
        by_cases h2 : k < b.size
        · rw [toList_drop b k h2]
          have : ((a.size : Int) < b.size) := by omega
          simp [cmpI, this, Lib.compareBytes]
        · rw [drop_none b k (by omega)]
          have : a.size = b.size := by omega
          simp [cmpI, this, Lib.compareBytes]
      go_wp2_with (go_at_call 85; refine (r1_Numbers _ _ _).mono ?_; rintro e w' ⟨rfl, rfl⟩)
      go_ret
      exact ⟨ret_int HE.out, hbr⟩
end Go.Proofs.YtnhcjpmamgdeoaaGreatDoor
