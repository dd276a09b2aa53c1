/-
  THE WALKS of the reference: words: run, begins.
-/
import Derived.Test.YtbommoefpekalaaGreatDoorRef1
import Derived.Test.YtbommoefpekalaaGreatDoorWord1
namespace Go.Proofs.YtbommoefpekalaaGreatDoor
open Go.RowKit

set_option maxRecDepth 100000 in
set_option maxHeartbeats 400000 in
theorem r2_isLetter (b : Int) (w : World) :
    Calls Tryz.prog 81 #[.int .u8 b] w fun e w' => e = .returned (.bool (letterI b)) ∧ w = w' := by
  go_enter Tryz.func81, Tryz.ntmps81
  go_wp2
  all_goals (go_ret; exact ⟨ret_bool (by rw [Bool.eq_iff_iff]; simp [letterI]; omega), rfl⟩)
set_option maxRecDepth 100000 in
set_option maxHeartbeats 400000 in
theorem r2_isDigit (b : Int) (w : World) :
    Calls Tryz.prog 79 #[.int .u8 b] w fun e w' => e = .returned (.bool (digitI b)) ∧ w = w' := by
  go_enter Tryz.func79, Tryz.ntmps79
  go_wp2
  all_goals (go_ret; exact ⟨ret_bool (by rw [Bool.eq_iff_iff]; simp [digitI]; omega), rfl⟩)

set_option maxRecDepth 100000 in
set_option maxHeartbeats 1600000 in
theorem r2_run_digits (s : ByteArray) (i : Nat) (w : World) (hs : s.size ≤ 140737488351232) (hi : i ≤ s.size) :
    Calls Tryz.prog 80 #[.string s, .int .i64 i, .bool true] w fun e w' => e = .returned (.int .i64 (runL digitI s i)) ∧ w = w' := by
  go_enter Tryz.func80, Tryz.ntmps80
  go_wp2_with fail
  go_loop [1] (fun t => ∃ k : Nat, i ≤ k ∧ k ≤ s.size ∧ t = .int .i64 k ∧ Hid (runL digitI s k = runL digitI s i)) (fun t => s.size - (intOf t).toNat)
  case atStart => exact ⟨i, Nat.le_refl _, hi, rfl, rfl⟩
  case round =>
    obtain ⟨k, hik, hk, rfl, HK⟩ := hrel
    by_cases hlt : k < s.size
    · by_cases hp : digitI (s[k].toNat : Int) = true
      · have HK2 : Hid (runL digitI s (k + 1) = runL digitI s i) := by show _ = _; rw [← runL_hit hlt hp]; exact HK.out
        go_wp2_with (go_at_call 79; refine (r2_isDigit _ _).mono ?_; rintro e w' ⟨rfl, rfl⟩)
        go_round
        case rel => exact ⟨k + 1, by omega, by omega, by go_num, HK2⟩
        case measure => simp [intOf]; omega
      · have hp : digitI (s[k].toNat : Int) = false := by simpa using hp
        have HK2 : Hid (runL digitI s i = k) := by show _ = _; rw [← HK.out]; exact runL_miss hlt hp
        go_wp2_with (go_at_call 79; refine (r2_isDigit _ _).mono ?_; rintro e w' ⟨rfl, rfl⟩)
        go_ret
        exact ⟨ret_int (by rw [HK2.out]), rfl⟩
    · have HK2 : Hid (runL digitI s i = k) := by show _ = _; rw [← HK.out]; exact runL_end (by omega)
      go_wp2_with fail
      go_ret
      exact ⟨ret_int (by rw [HK2.out]), rfl⟩
set_option maxRecDepth 100000 in
set_option maxHeartbeats 1600000 in
theorem r2_run_name (s : ByteArray) (i : Nat) (w : World) (hs : s.size ≤ 140737488351232) (hi : i ≤ s.size) :
    Calls Tryz.prog 80 #[.string s, .int .i64 i, .bool false] w fun e w' => e = .returned (.int .i64 (runL nameI s i)) ∧ w = w' := by
  go_enter Tryz.func80, Tryz.ntmps80
  go_wp2_with fail
  go_loop [1] (fun t => ∃ k : Nat, i ≤ k ∧ k ≤ s.size ∧ t = .int .i64 k ∧ Hid (runL nameI s k = runL nameI s i)) (fun t => s.size - (intOf t).toNat)
  case atStart => exact ⟨i, Nat.le_refl _, hi, rfl, rfl⟩
  case round =>
    obtain ⟨k, hik, hk, rfl, HK⟩ := hrel
    by_cases hlt : k < s.size
    · by_cases hp : digitI (s[k].toNat : Int) = true
      · have HK2 : Hid (runL nameI s (k + 1) = runL nameI s i) := by show _ = _; rw [← runL_hit hlt (by simp [nameI, hp])]; exact HK.out
        go_wp2_with (go_at_call 79; refine (r2_isDigit _ _).mono ?_; rintro e w' ⟨rfl, rfl⟩)
        go_round
        case rel => exact ⟨k + 1, by omega, by omega, by go_num, HK2⟩
        case measure => simp [intOf]; omega
      · have hp : digitI (s[k].toNat : Int) = false := by simpa using hp
        by_cases hq : letterI (s[k].toNat : Int) = true
        · have HK2 : Hid (runL nameI s (k + 1) = runL nameI s i) := by show _ = _; rw [← runL_hit hlt (by simp [nameI, hq])]; exact HK.out
          go_wp2_with (first | (go_at_call 79; refine (r2_isDigit _ _).mono ?_; rintro e w' ⟨rfl, rfl⟩) | (go_at_call 81; refine (r2_isLetter _ _).mono ?_; rintro e w' ⟨rfl, rfl⟩))
          go_round
          case rel => exact ⟨k + 1, by omega, by omega, by go_num, HK2⟩
          case measure => simp [intOf]; omega
        · have hq : letterI (s[k].toNat : Int) = false := by simpa using hq
          have HK2 : Hid (runL nameI s i = k) := by show _ = _; rw [← HK.out]; exact runL_miss hlt (by simp [nameI, hq, hp])
          go_wp2_with (first | (go_at_call 79; refine (r2_isDigit _ _).mono ?_; rintro e w' ⟨rfl, rfl⟩) | (go_at_call 81; refine (r2_isLetter _ _).mono ?_; rintro e w' ⟨rfl, rfl⟩))
          go_ret
          exact ⟨ret_int (by rw [HK2.out]), rfl⟩
    · have HK2 : Hid (runL nameI s i = k) := by show _ = _; rw [← HK.out]; exact runL_end (by omega)
      go_wp2_with fail
      go_ret
      exact ⟨ret_int (by rw [HK2.out]), rfl⟩

theorem prefix_step {s x : ByteArray} {i k : Nat} (hx : k < x.size) (hs : i + k < s.size) : (x.toList.drop k).isPrefixOf (s.toList.drop (i + k)) = (x[k] == s[i + k] && (x.toList.drop (k + 1)).isPrefixOf (s.toList.drop (i + (k + 1)))) := by
  rw [toList_drop x k hx, toList_drop s (i + k) hs, List.isPrefixOf_cons_cons]; rfl
set_option maxRecDepth 100000 in
set_option maxHeartbeats 1600000 in
theorem r2_begins (s : ByteArray) (i : Nat) (x : ByteArray) (w : World) (hs : s.size ≤ 140737488351232) (hi : i ≤ s.size) (hx : x.size ≤ 140737488351232) :
    Calls Tryz.prog 83 #[.string s, .int .i64 i, .string x] w fun e w' => e = .returned (.bool (x.toList.isPrefixOf (s.toList.drop i))) ∧ Below w.heap.size w w' := by
  by_cases hl : (s.size : Int) - i < x.size
  · have HP : Hid (x.toList.isPrefixOf (s.toList.drop i) = false) := by
      show _ = _
      rw [Bool.eq_false_iff]
      intro h
      have := List.IsPrefix.length_le (List.isPrefixOf_iff_prefix.1 h)
      rw [List.length_drop, toList_len, toList_len] at this
      omega
    go_enter Tryz.func83, Tryz.ntmps83
    go_wp2_with fail
    go_ret
    exact ⟨ret_bool HP.out.symm, Below.refl _ _⟩
  · go_enter Tryz.func83, Tryz.ntmps83
    go_wp2_with fail
    go_loopw [7] (fun t wr => ∃ k : Nat, k ≤ x.size ∧ t = .int .i64 k ∧ Hid ((x.toList.drop k).isPrefixOf (s.toList.drop (i + k)) = x.toList.isPrefixOf (s.toList.drop i)) ∧ Below w.heap.size w wr) (fun t _ => x.size - (intOf t).toNat)
    case atStart => exact ⟨0, Nat.zero_le _, rfl, by simp [Hid], Below.refl _ _⟩
    case round =>
      obtain ⟨k, hk, rfl, HK, hbr⟩ := hrel
      by_cases hlt : k < x.size
      · have hsi : i + k < s.size := by omega
        have HS := Lib.hid (prefix_step hlt hsi)
        have hsum : IntKind.i64.wrap ((i : Int) + k) = (i : Int) + k := by rw [IntKind.wrap_i64]; omega
        have hpos : 0 ≤ (i : Int) + k := by omega
        have hnat : ((i : Int) + k).toNat = i + k := by omega
        have hix : ∀ W, (Instr.index 9 (.string s) (.int .i64 ((i : Int) + k))).run Tryz.prog W = .ok (.int .u8 (s[i + k].toNat : Int)) W := fun W => by
          rw [show (i : Int) + k = ((i + k : Nat) : Int) from by omega]; exact run_index_str s (i + k) hsi W
        by_cases he : x[k] = s[i + k]
        · have hne : ((s[i + k].toNat : Int) != (x[k].toNat : Int)) = false := by rw [he]; simp
          have HK2 : Hid ((x.toList.drop (k + 1)).isPrefixOf (s.toList.drop (i + (k + 1))) = x.toList.isPrefixOf (s.toList.drop i)) := by
            show _ = _; rw [← HK.out, HS.out, he]; simp
          clear he HS HK
          go_wp2_with fail
          go_quiet (fail)
          clear hsum hpos hnat hix
          go_wp2_with fail
          exact ⟨⟨k + 1, by omega, by go_num, HK2, below_drewN hbr _⟩, by simp [intOf]; omega⟩
        · have hne : ((s[i + k].toNat : Int) != (x[k].toNat : Int)) = true := by
            simp only [bne_iff_ne, ne_eq]
            intro h
            exact he (UInt8.toNat_inj.1 (by omega))
          have HK2 : Hid (x.toList.isPrefixOf (s.toList.drop i) = false) := by
            show _ = _; rw [← HK.out, HS.out]; simp [he]
          clear he HS HK
          go_wp2_with fail
          go_quiet (fail)
          clear hsum hpos hnat hix
          go_wp2_with fail
          go_ret
          exact ⟨ret_bool HK2.out.symm, below_drewN hbr _⟩
      · have HK2 : Hid (x.toList.isPrefixOf (s.toList.drop i) = true) := by show _ = _; rw [← HK.out, drop_none x k (by omega)]; rfl
        go_wp2_with fail
        go_ret
        exact ⟨ret_bool HK2.out.symm, hbr⟩
end Go.Proofs.YtbommoefpekalaaGreatDoor
