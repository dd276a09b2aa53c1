/-
  THE WALKS: the closure that compares two pieces by their names; the pieces sorted by it.
-/
import Derived.Test.YtnhcjpmamgdeoaaGreatDoorSrt
import Derived.Test.YtnhcjpmamgdeoaaGreatDoorShelf2
import Derived.Test.YtnhcjpmamgdeoaaGreatDoorValD
import Derived.Test.YtnhcjpmamgdeoaaGreatDoorVxM
import Derived.Deep.QuietTactic
import Derived.BigQuiet
namespace Go.Proofs.YtnhcjpmamgdeoaaGreatDoor
open Go.RowKit Go.Sort

def nmCmp (a b : List Nd) : Int := Lib.compareBytes (headS a).toList (headS b).toList
theorem grow_same {w : World} {n : Nat} : ∃ q os', w.drewN n = grow (w.drewN q) os' := ⟨n, #[], by simp⟩
set_option maxRecDepth 100000 in
set_option maxHeartbeats 1600000 in
theorem part1_cmp (x y : NsM) (W : World) (hx : x.e ≠ []) (hy : y.e ≠ []) (gx : NsGood W W.heap.size x) (gy : NsGood W W.heap.size y) :
    Calls Tryz.prog 90 #[.slice x.A x.e.length x.c, .slice y.A y.e.length y.c] W fun r w' => r = .returned (.int .i64 (nmCmp x.e y.e)) ∧ ∃ q os', w' = grow (W.drewN q) os' := by
  obtain ⟨A1, c1, e1⟩ := x
  obtain ⟨A2, c2, e2⟩ := y
  obtain ⟨x, xs, rfl⟩ := List.exists_cons_of_ne_nil hx
  obtain ⟨y, ys, rfl⟩ := List.exists_cons_of_ne_nil hy
  obtain ⟨b1, o1, h1, hb1, hc1⟩ := gx.sl hx
  obtain ⟨b2, o2, h2, hb2, hc2⟩ := gy.sl hy
  simp only at h1 h2
  subst h1 h2
  have l1 := gx.le
  have l2 := gy.le
  have m1 := gx.max
  have m2 := gy.max
  obtain ⟨-, -, d1, -⟩ := hc1 0 x rfl
  obtain ⟨-, -, d2, -⟩ := hc2 0 y rfl
  rw [Nat.zero_mul, Nat.add_zero] at d1 d2
  simp only [List.length_cons] at l1 l2 m1 m2 ⊢
  have i1 : (0 : Int) < ((xs.length + 1 : Nat) : Int) := by omega
  have i2 : (0 : Int) < ((ys.length + 1 : Nat) : Int) := by omega
  have HV : Hid (nmCmp (x :: xs) (y :: ys) = Lib.compareBytes x.s.data.toList y.s.data.toList) := by
    show _ = _
    unfold nmCmp; rw [headS_cons, headS_cons, ByteArray.toList_eq, ByteArray.toList_eq]
  clear hc1 hc2 gx gy hx hy
  generalize xs.length + 1 = n1 at *
  generalize ys.length + 1 = n2 at *
  generalize nmCmp (x :: xs) (y :: ys) = v at *
  go_enter Tryz.func90, Tryz.ntmps90
  go_wp2_with fail
  go_quiet ((go_at_call 91; exact Calls.quiet_of_same (Tryz.strings_Compare _ _ _)))
  go_wp2_with fail
  go_ret
  rw [HV.out]
  exact ⟨rfl, grow_same⟩
end Go.Proofs.YtnhcjpmamgdeoaaGreatDoor
