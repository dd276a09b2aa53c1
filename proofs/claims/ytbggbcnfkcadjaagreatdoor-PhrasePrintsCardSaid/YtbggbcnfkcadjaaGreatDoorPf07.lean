/-
  THE WALKS: package word: small functions; 'while'.
  THE WALKS: package word: named, sign.
-/
import Derived.Test.YtbggbcnfkcadjaaGreatDoorPf01
import Derived.Test.YtbggbcnfkcadjaaGreatDoorPf06
import Derived.Test.YtbggbcnfkcadjaaGreatDoorPf03
import Derived.Deep.LoopGhost
import Derived.Shelf.Abstract
import Derived.BigQuiet
namespace Go.Proofs.YtbggbcnfkcadjaaGreatDoor
open Go.RowKit
def nameI (b : Int) : Bool := letterI b || digitI b
def runL (p : Int → Bool) (s : ByteArray) (i : Nat) : Nat := i + ((s.toList.drop i).takeWhile fun c => p (c.toNat : Int)).length
theorem runL_hit {p : Int → Bool} {s : ByteArray} {i : Nat} (h : i < s.size) (hp : p (s[i].toNat : Int) = true) : runL p s i = runL p s (i + 1) := by
 unfold runL
 have h2 : i < s.toList.length := by rw [toList_len]; exact h
 have h1 := toList_get s i h
 rw [List.getElem?_eq_getElem h2] at h1
 injection h1 with h1
 rw [List.drop_eq_getElem_cons h2, h1, List.takeWhile_cons_of_pos (by simpa using hp), List.length_cons]; omega
theorem runL_miss {p : Int → Bool} {s : ByteArray} {i : Nat} (h : i < s.size) (hp : p (s[i].toNat : Int) = false) : runL p s i = i := by
 unfold runL
 have h2 : i < s.toList.length := by rw [toList_len]; exact h
 have h1 := toList_get s i h
 rw [List.getElem?_eq_getElem h2] at h1
 injection h1 with h1
 rw [List.drop_eq_getElem_cons h2, h1, List.takeWhile_cons_of_neg (by simpa using hp)]; rfl
theorem runL_end {p : Int → Bool} {s : ByteArray} {i : Nat} (h : s.size ≤ i) : runL p s i = i := by
 unfold runL
 rw [List.drop_eq_nil_of_le (by rw [toList_len]; exact h)]; rfl
theorem runL_le (p : Int → Bool) (s : ByteArray) {i : Nat} (h : i ≤ s.size) : runL p s i ≤ s.size := by
 unfold runL
 have := List.IsPrefix.length_le (List.takeWhile_prefix (fun c : UInt8 => p (c.toNat : Int)) (l := s.toList.drop i))
 rw [List.length_drop, toList_len] at this
 omega
theorem runL_ge (p : Int → Bool) (s : ByteArray) (i : Nat) : i ≤ runL p s i := by unfold runL; omega
theorem run_index_str (s : ByteArray) (j : Nat) (hj : j < s.size) (W : World) : (Instr.index 9 (.string s) (.int .i64 (j : Int))).run Tryz.prog W = .ok (.int .u8 (s[j].toNat : Int)) W := by
 go_simp
end Go.Proofs.YtbggbcnfkcadjaaGreatDoor
namespace Go.Proofs.YtbggbcnfkcadjaaGreatDoor
open Go.RowKit Go.Sort
@[go_sem] theorem guard_held (x y : Operand) (k : Int) (T : TypeId) (v : Value) (w : World) : (eqGuard .eql 25 x y (errV k) (.iface T v)).run Tryz.prog w = .ok () w := by
  by_cases h : k = 0
  · subst h; rw [errV_zero]; simp [eqGuard]
  · rw [errV_pos h]; simp [eqGuard]
theorem nameErr_cases (l : List UInt8) : nameErr l = 0 ∨ nameErr l = 1 ∨ nameErr l = 4 := by
 unfold nameErr
 repeat' split
 all_goals simp
end Go.Proofs.YtbggbcnfkcadjaaGreatDoor
