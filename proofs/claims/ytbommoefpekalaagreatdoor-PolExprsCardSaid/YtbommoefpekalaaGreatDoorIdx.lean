/-
  PLAIN FACTS: a byte of a text.
-/
import Derived.Test.YtbommoefpekalaaGreatDoorBase
import Derived.Test.YtbommoefpekalaaGreatDoorProg
namespace Go.Proofs.YtbommoefpekalaaGreatDoor
open Go.RowKit

theorem run_at_str (s : ByteArray) (j : Nat) (hj : j < s.size) (W : World) : (Instr.index 9 (.string s) (.int .i64 (j : Int))).run Tryz.prog W = .ok (.int .u8 (s[j].toNat : Int)) W := by
  go_simp
theorem beq_chr {c d : UInt8} (h : c = d) : ((c.toNat : Int) == (d.toNat : Int)) = true := by rw [h]; simp
theorem bne_chr {c d : UInt8} (h : ¬ c = d) : ((c.toNat : Int) == (d.toNat : Int)) = false := by
  simp only [beq_eq_false_iff_ne, ne_eq]
  intro hh
  exact h (UInt8.toNat_inj.1 (by omega))
theorem list_drop (s : ByteArray) (k : Nat) (h : k < s.size) : s.toList.drop k = s[k] :: s.toList.drop (k + 1) := by
  have h2 : k < s.toList.length := by rw [toList_len]; exact h
  have h1 : s.toList[k] = s[k] := by
    have := toList_get s k h
    rw [List.getElem?_eq_getElem h2] at this
    exact Option.some.inj this
  rw [List.drop_eq_getElem_cons h2, h1]
end Go.Proofs.YtbommoefpekalaaGreatDoor
