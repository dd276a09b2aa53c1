/-
  THE WALK: the laws' comparison of nodes.
-/
import Derived.Test.YtnhcjpmamgdeoaaGreatDoorNames
import Derived.Test.YtnhcjpmamgdeoaaGreatDoorBase
import Derived.BigQuiet
namespace Go.Proofs.YtnhcjpmamgdeoaaGreatDoor
open Go.RowKit Go.Sort

theorem string_info : (Tryz.prog.info? 9).map (fun i => (i.zero, i.size, i.bytes)) = some (some (.string ⟨#[]⟩), 1, 16) := by kernel_rfl
/-- A list of strings that a call hands back, and an error. -/
def StrsBack (w : World) (r : Ending) (w' : World) (ss : List (List UInt8)) (k : Int) : Prop :=
  ∃ A c, r = .returned (.tuple #[.slice A ss.length c, errV k]) ∧ ss.length ≤ c ∧ c ≤ 9223372036854775807 ∧ StrSl w' w'.heap.size A ss ∧ Below w.heap.size w w'

set_option maxHeartbeats 800000 in
theorem same_Nodes (xs : List Nd) (A1 A2 : Option Addr) (c1 c2 : Nat) (w : World) (h1 : NdSl w w.heap.size A1 xs) (h2 : NdSl w w.heap.size A2 xs) (l1 : xs.length ≤ 9223372036854775807) :
    Calls Tryz.prog 11 #[.slice A1 xs.length c1, .slice A2 xs.length c2] w fun r w' => r = .returned (.bool true) ∧ RowKit.Below w.heap.size w w' := by
  have H1 := Lib.hid h1
  have H2 := Lib.hid h2
  have hne : ((xs.length : Int) != (xs.length : Int)) = false := by simp
  clear h1 h2
  go_enter Tryz.func11, Tryz.ntmps11
  go_wp2_with fail
  go_loopw [5] (fun kk wr => ∃ k : Nat, kk = .int .i64 k ∧ k ≤ xs.length ∧ RowKit.Below w.heap.size w wr) (fun kk _ => xs.length - (intOf kk).toNat)
  case atStart => exact ⟨0, rfl, by omega, RowKit.Below.refl _ _⟩
  case round =>
    obtain ⟨k, rfl, hk, hbr⟩ := hrel
    by_cases hlt : k < xs.length
    · obtain ⟨b, o, rfl, hb, hcs⟩ := (H1.out.below hbr).at_ hlt
      obtain ⟨b2, o2, rfl, hb2, hcs2⟩ := (H2.out.below hbr).at_ hlt
      obtain ⟨x, hx⟩ : ∃ x, xs[k]? = some x := ⟨_, List.getElem?_eq_getElem hlt⟩
      obtain ⟨d0, d1, d2, d3⟩ := hcs k x hx
      obtain ⟨f0, f1, f2, f3⟩ := hcs2 k x hx
      clear hcs hcs2 hx
      go_wp2_with fail
      go_quiet (fail)
      go_wp2_with fail
      exact ⟨⟨k + 1, by go_num, by omega, below_drewN hbr _⟩, by simp [intOf]; omega⟩
    · go_wp2_with fail
      go_ret
      exact ⟨rfl, hbr⟩
end Go.Proofs.YtnhcjpmamgdeoaaGreatDoor
