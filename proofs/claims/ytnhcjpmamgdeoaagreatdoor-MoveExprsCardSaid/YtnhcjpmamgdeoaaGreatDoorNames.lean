/-
  THE WALKS of package name: letter, digit, Check, Plain. For every string (up to the reach).
-/
import Derived.Test.YtnhcjpmamgdeoaaGreatDoorProg
import Derived.Test.YtnhcjpmamgdeoaaGreatDoorBase
import Derived.WideLaws
import Derived.KernelRfl
namespace Go.Proofs.YtnhcjpmamgdeoaaGreatDoor
open Go.RowKit

/-- An error's value: nil, or the number. -/
def errV (k : Int) : Value := if k = 0 then .nilIface else .iface 30 (.int .i64 k)
theorem errV_zero : errV 0 = .nilIface := rfl
theorem errV_pos {k : Int} (h : ¬ k = 0) : errV k = .iface 30 (.int .i64 k) := by simp [errV, h]
theorem err_type : Tryz.prog.underlying 28 = some (.interface (Tryz.prog.methodsAt 28)) := by kernel_rfl
@[go_sem] theorem run_eql_errV (k : Int) (w : World) : (binOp .eql 28 (errV k) .nilIface).run Tryz.prog w = .ok (.bool (k == 0)) w := by
  by_cases h : k = 0
  · subst h; rw [errV_zero, run_eql_nil_nil w _ err_type]; rfl
  · rw [errV_pos h, run_eql_held_nil w _ _ _ err_type]; simp [h]
@[go_sem] theorem run_guard_errV (op : BinOp) (t : TypeId) (x : Operand) (c : Value) (k : Int) (w : World) : (eqGuard op t x (.const c) (errV k) .nilIface).run Tryz.prog w = .ok () w := by
  by_cases h : k = 0
  · subst h; rw [errV_zero]; cases op <;> simp [eqGuard]
  · rw [errV_pos h]; cases op <;> simp [eqGuard]
@[go_sem] theorem run_neq_errV (k : Int) (w : World) : (binOp .neq 28 (errV k) .nilIface).run Tryz.prog w = .ok (.bool (k != 0)) w := by
  by_cases h : k = 0
  · subst h; rw [errV_zero, run_neq_nil_nil w _ err_type]; rfl
  · rw [errV_pos h, run_neq_held_nil w _ _ _ err_type]; simp [h]

set_option maxRecDepth 100000 in
set_option maxHeartbeats 400000 in
theorem name_letter (b : Int) (w : World) :
    Calls Tryz.prog 50 #[.int .u8 b] w fun e w' => e = .returned (.bool (letterI b)) ∧ w = w' := by
  go_enter Tryz.func50, Tryz.ntmps50
  go_wp2
  all_goals (go_ret; exact ⟨ret_bool (by rw [Bool.eq_iff_iff]; simp [letterI]; omega), rfl⟩)
set_option maxRecDepth 100000 in
set_option maxHeartbeats 400000 in
theorem name_digit (b : Int) (w : World) :
    Calls Tryz.prog 51 #[.int .u8 b] w fun e w' => e = .returned (.bool (digitI b)) ∧ w = w' := by
  go_enter Tryz.func51, Tryz.ntmps51
  go_wp2
  all_goals (go_ret; exact ⟨ret_bool (by rw [Bool.eq_iff_iff]; simp [digitI]; omega), rfl⟩)

set_option maxRecDepth 100000 in
set_option maxHeartbeats 400000 in
theorem name_Check (s : ByteArray) (w : World) (hs : s.size ≤ 140737488351232) :
    Calls Tryz.prog 27 #[.string s] w fun e w' => e = .returned (errV (nameErr s.toList)) ∧ Below w.heap.size w w' := by
  obtain ⟨cap, w1, hconv, hcell, hbel⟩ := bytes_conv (P := Tryz.prog) w 9 100 5 s Tryz.underlying9 Tryz.underlying100 Tryz.underlying5
  have HC := Lib.hid hcell
  have HB := Lib.hid hbel
  clear hcell hbel
  by_cases h0 : 0 < s.size
  · have h0' : s.toList.isEmpty = false := toList_ne h0
    obtain ⟨l, hl0⟩ := toList_cons h0
    have HL := Lib.hid hl0
    clear hl0
    by_cases hl : letterI (s[0].toNat : Int) = true
    · go_enter Tryz.func27, Tryz.ntmps27
      go_wp2_with (go_at_call 50; refine (name_letter _ _).mono ?_; rintro e w' ⟨rfl, rfl⟩)
      go_loop [17] (fun i => ∃ k : Nat, k ≤ s.size ∧ i = .int .i64 k ∧ Hid ((s.toList.take k).all nameB = true)) (fun i => s.size - (intOf i).toNat)
      case atStart => exact ⟨0, by omega, rfl, by simp [Hid]⟩
      case round =>
        obtain ⟨k, hk, rfl, HK⟩ := hrel
        by_cases hlt : k < s.size
        · have hc := HC.out k hlt
          have hg := toList_get s k hlt
          have HG := Lib.hid hg
          clear hg
          by_cases h1 : letterI (s[k].toNat : Int) = true
          · go_wp2_with (go_at_call 50; refine (name_letter _ _).mono ?_; rintro e w' ⟨rfl, rfl⟩)
            go_round
            case rel => exact ⟨k + 1, by omega, by go_num, all_take _ _ _ _ HK.out HG.out (by simp [nameB, h1])⟩
            case measure => simp [intOf]; omega
          · by_cases h2 : digitI (s[k].toNat : Int) = true
            · go_wp2_with (first | (go_at_call 50; refine (name_letter _ _).mono ?_; rintro e w' ⟨rfl, rfl⟩) | (go_at_call 51; refine (name_digit _ _).mono ?_; rintro e w' ⟨rfl, rfl⟩))
              go_round
              case rel => exact ⟨k + 1, by omega, by go_num, all_take _ _ _ _ HK.out HG.out (by simp [nameB, h2])⟩
              case measure => simp [intOf]; omega
            · go_wp2_with (first | (go_at_call 50; refine (name_letter _ _).mono ?_; rintro e w' ⟨rfl, rfl⟩) | (go_at_call 51; refine (name_digit _ _).mono ?_; rintro e w' ⟨rfl, rfl⟩))
              go_ret
              have hb := all_bad s.toList nameB k s[k] HG.out (by simp [nameB, h1, h2])
              exact ⟨ret_val (by rw [HL.out] at hb ⊢; simp [nameErr, hl, hb, errV]), HB.out⟩
        · have hks : k = s.size := by omega
          subst hks
          have ha : s.toList.all nameB = true := by have := HK.out; rwa [List.take_of_length_le (by rw [toList_len]; omega)] at this
          have hsz : s.toList.length = s.size := toList_len s
          have HA := Lib.hid ha
          have HZ := Lib.hid hsz
          clear ha hsz
          by_cases h20 : 20 < s.size
          · go_wp2
            go_ret
            have ha := HA.out
            have hz := HZ.out
            exact ⟨ret_val (by rw [HL.out] at ha hz ⊢; simp [nameErr, hl, ha, errV, hz, h20]), HB.out⟩
          · go_wp2
            go_ret
            have ha := HA.out
            have hz := HZ.out
            exact ⟨ret_val (by rw [HL.out] at ha hz ⊢; simp [nameErr, hl, ha, errV, hz, h20]), HB.out⟩
    · go_enter Tryz.func27, Tryz.ntmps27
      go_wp2_with (go_at_call 50; refine (name_letter _ _).mono ?_; rintro e w' ⟨rfl, rfl⟩)
      go_ret
      exact ⟨ret_val (by rw [HL.out]; simp [nameErr, hl, errV]), Below.refl _ _⟩
  · have h0' := toList_nil h0
    have h0'' : s.toList.isEmpty = true := by rw [h0']; rfl
    have HL := Lib.hid h0'
    clear h0'
    go_enter Tryz.func27, Tryz.ntmps27
    go_wp2_with fail
    go_ret
    exact ⟨ret_val (by rw [HL.out]; simp [nameErr, errV]), Below.refl _ _⟩

set_option maxRecDepth 100000 in
set_option maxHeartbeats 400000 in
theorem name_Plain (s : ByteArray) (w : World) (hs : s.size ≤ 140737488351232) :
    Calls Tryz.prog 107 #[.string s] w fun e w' => e = .returned (errV (textErr s.toList)) ∧ Below w.heap.size w w' := by
  obtain ⟨cap, w1, hconv, hcell, hbel⟩ := bytes_conv (P := Tryz.prog) w 9 100 5 s Tryz.underlying9 Tryz.underlying100 Tryz.underlying5
  have HC := Lib.hid hcell
  have HB := Lib.hid hbel
  have HZ := Lib.hid (toList_len s)
  clear hcell hbel
  by_cases h60 : 60 < s.size
  · go_enter Tryz.func107, Tryz.ntmps107
    go_wp2_with fail
    go_ret
    have hz := HZ.out
    exact ⟨ret_val (by simp [textErr, hz, h60, errV]), Below.refl _ _⟩
  · go_enter Tryz.func107, Tryz.ntmps107
    go_wp2_with fail
    go_loop [12] (fun i => ∃ k : Nat, k ≤ s.size ∧ i = .int .i64 k ∧ Hid ((s.toList.take k).all plainB = true)) (fun i => s.size - (intOf i).toNat)
    case atStart => exact ⟨0, by omega, rfl, by simp [Hid]⟩
    case round =>
      obtain ⟨k, hk, rfl, HK⟩ := hrel
      by_cases hlt : k < s.size
      · have hc := HC.out k hlt
        have HG := Lib.hid (toList_get s k hlt)
        by_cases h1 : (s[k].toNat : Int) < 32
        · go_wp2_with fail
          go_ret
          have hb := all_bad s.toList plainB k s[k] HG.out (by simp [plainB]; omega)
          have hz := HZ.out
          exact ⟨ret_val (by simp [textErr, hz, h60, hb, errV]), HB.out⟩
        · by_cases h2 : 126 < (s[k].toNat : Int)
          · go_wp2_with fail
            go_ret
            have hb := all_bad s.toList plainB k s[k] HG.out (by simp [plainB]; omega)
            have hz := HZ.out
            exact ⟨ret_val (by simp [textErr, hz, h60, hb, errV]), HB.out⟩
          · go_wp2_with fail
            go_round
            case rel => exact ⟨k + 1, by omega, by go_num, all_take _ _ _ _ HK.out HG.out (by simp [plainB]; omega)⟩
            case measure => simp [intOf]; omega
      · have hks : k = s.size := by omega
        subst hks
        have HA : Hid (s.toList.all plainB = true) := by have := HK.out; rwa [List.take_of_length_le (by rw [toList_len]; omega)] at this
        go_wp2_with fail
        go_ret
        have ha := HA.out
        have hz := HZ.out
        exact ⟨ret_val (by simp [textErr, hz, h60, ha, errV]), HB.out⟩
end Go.Proofs.YtnhcjpmamgdeoaaGreatDoor
