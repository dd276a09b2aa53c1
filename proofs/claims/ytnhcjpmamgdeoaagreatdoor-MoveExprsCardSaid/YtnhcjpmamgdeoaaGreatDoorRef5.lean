/-
  THE WALKS of the reference: Fault, Put.
-/
import Derived.Test.YtnhcjpmamgdeoaaGreatDoorRef4
namespace Go.Proofs.YtnhcjpmamgdeoaaGreatDoor
open Go.RowKit

theorem treeErr_beh (e : List Nd) : treeErr e = if 200 < e.length then 4 else if behV e 0 = (e.length : Int) then 0 else 1 := by
  unfold treeErr
  rw [show ((0 : Int)) = ((0 : Nat) : Int) from rfl, behV_nat, bR_one_len e false (Nat.zero_le _)]
  split
  · rfl
  · cases h : bR e (.one false) 0 with
    | none =>
      rw [if_neg (by simp), if_neg (by show ¬ (-1 : Int) = _; omega)]
    | some j =>
      by_cases hj : j = e.length
      · rw [if_pos (by rw [hj]), if_pos (by rw [hj]; rfl)]
      · rw [if_neg (by simpa using hj), if_neg (by show ¬ (j : Int) = _; omega)]

set_option maxRecDepth 100000 in
set_option maxHeartbeats 1600000 in
theorem r2_Fault (e : List Nd) (A : Option Addr) (c : Nat) (w : World) (hm : e.length ≤ 9223372036854775807) (hok : NdOk e) (hsl : NdSl w w.heap.size A e) :
    Calls Tryz.prog 13 #[.slice A e.length c] w fun r w' => r = .returned (.int .i64 (treeErr e)) ∧ Below w.heap.size w w' := by
  rw [treeErr_beh]
  by_cases h : 200 < e.length
  · rw [if_pos h]
    clear hsl
    go_enter Tryz.func13, Tryz.ntmps13
    go_wp2_with fail
    go_ret
    exact ⟨rfl, Below.refl _ _⟩
  · rw [if_neg h]
    have HB := Lib.hid (r2_Behind e _ 0 A c w (Nat.le_refl _) (by omega) hok hsl)
    clear hsl hok
    by_cases hq : behV e 0 = (e.length : Int)
    · rw [if_pos hq]
      rw [hq] at HB
      have hne : ((e.length : Int) != (e.length : Int)) = false := by simp
      clear hq
      go_enter Tryz.func13, Tryz.ntmps13
      go_wp2_with fail
      refine Calls.mono HB.out ?_
      rintro r w1 ⟨rfl, hb1⟩
      go_wp2_with fail
      go_ret
      exact ⟨rfl, hb1⟩
    · rw [if_neg hq]
      have hne : (behV e 0 != (e.length : Int)) = true := by simp [hq]
      clear hq
      go_enter Tryz.func13, Tryz.ntmps13
      go_wp2_with fail
      refine Calls.mono HB.out ?_
      rintro r w1 ⟨rfl, hb1⟩
      go_wp2_with fail
      go_ret
      exact ⟨rfl, hb1⟩
end Go.Proofs.YtnhcjpmamgdeoaaGreatDoor
