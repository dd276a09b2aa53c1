/-
  THE WALKS: tree.Check, Skip, End.
-/
import Derived.Test.YtnhcjpmamgdeoaaGreatDoorTree3
import Derived.Test.YtnhcjpmamgdeoaaGreatDoorP
namespace Go.Proofs.YtnhcjpmamgdeoaaGreatDoor
open Go.RowKit

theorem beh_all (e : List Nd) : ∀ f i, BehOk e f i := by
  intro f
  induction f using Nat.strongRecOn with
  | _ f ih =>
    intro i
    by_cases hi : e.length ≤ i
    · exact beh_out e f i hi
    · have hil : i < e.length := by omega
      cases f with
      | zero => intro w A c fld hf; omega
      | succ f =>
        have hx : e[i]? = some e[i] := List.getElem?_eq_getElem hil
        cases hsh : shapedT e[i] with
        | false => exact beh_bad e f i _ hx hsh
        | true =>
          intro w A c fld hf hc hcm him hok hsl
          by_cases h7 : (e[i].op == 7) = fld
          · exact beh_yes e f i _ hx hsh (fun f' hf i' => ih f' (by omega) i') w A c fld h7 hf hc hcm him hok hsl
          · exact beh_no e f i _ hx hsh w A c fld h7 hf hc hcm him hok hsl

set_option maxHeartbeats 800000 in
theorem tree_Check (e : List Nd) (A : Option Addr) (c : Nat) (w : World) (hc : e.length ≤ c) (hcm : c ≤ 9223372036854775807) (hok : NdOk e) (hsl : NdSl w w.heap.size A e) :
    Calls Tryz.prog 31 #[.slice A e.length c] w fun r w' => r = .returned (errV (treeErr e)) ∧ Below w.heap.size w w' := by
  by_cases h : 200 < e.length
  · have HV : Hid (treeErr e = 4) := by show _ = _; simp [treeErr, h]
    clear hok hsl
    go_enter Tryz.func31, Tryz.ntmps31
    go_wp2_with fail
    go_ret
    exact ⟨ret_val (by rw [HV.out]; rfl), Below.refl _ _⟩
  · have hb := beh_all e (2 * e.length) 0 w A c false (by omega) hc hcm (by omega) hok hsl
    cases hv : bGo e (2 * e.length) (.one false) 0 with
    | none =>
      have HV : Hid (treeErr e = 1) := by show _ = _; simp [treeErr, h, hv]
      rw [hv] at hb
      have HB : Hid (Calls Tryz.prog 58 #[.slice A e.length c, .int .i64 0, .bool false] w fun r w' => r = .returned (.int .i64 (-1)) ∧ Below w.heap.size w w') := hb
      clear hv hb hok hsl
      have hne : ((-1 : Int) != (e.length : Int)) = true := by rw [bne_iff_ne]; omega
      go_enter Tryz.func31, Tryz.ntmps31
      go_wp2_with (go_at_call 58; refine HB.out.mono ?_; rintro r w1 ⟨rfl, hb1⟩)
      go_ret
      exact ⟨ret_val (by rw [HV.out]; rfl), hb1⟩
    | some j =>
      have HV : Hid (treeErr e = if j = e.length then 0 else 1) := by show _ = _; simp [treeErr, h, hv]
      rw [hv] at hb
      have HB : Hid (Calls Tryz.prog 58 #[.slice A e.length c, .int .i64 0, .bool false] w fun r w' => r = .returned (.int .i64 (j : Int)) ∧ Below w.heap.size w w') := hb
      clear hv hb hok hsl
      by_cases hj : j = e.length
      · have hne : ((j : Int) != (e.length : Int)) = false := by rw [hj]; simp
        have HJ := Lib.hid hj
        clear hj
        go_enter Tryz.func31, Tryz.ntmps31
        go_wp2_with (go_at_call 58; refine HB.out.mono ?_; rintro r w1 ⟨rfl, hb1⟩)
        go_ret
        exact ⟨ret_val (by rw [HV.out, if_pos HJ.out]; rfl), hb1⟩
      · have hne : ((j : Int) != (e.length : Int)) = true := by rw [bne_iff_ne]; omega
        go_enter Tryz.func31, Tryz.ntmps31
        go_wp2_with (go_at_call 58; refine HB.out.mono ?_; rintro r w1 ⟨rfl, hb1⟩)
        go_ret
        exact ⟨ret_val (by rw [HV.out, if_neg hj]; rfl), hb1⟩

/-- A list of nodes that a call hands back, and an error. -/
def NdsBack (w : World) (r : Ending) (w' : World) (xs : List Nd) (k : Int) : Prop :=
  ∃ A c, r = .returned (.tuple #[.slice A xs.length c, errV k]) ∧ xs.length ≤ c ∧ c ≤ 9223372036854775807 ∧ NdSl w' w'.heap.size A xs ∧ Below w.heap.size w w'
theorem NdsBack.none {w w' : World} {k : Int} (h : Below w.heap.size w w') : NdsBack w (.returned (.tuple #[.slice none 0 0, errV k])) w' [] k :=
  ⟨Option.none, 0, rfl, Nat.le_refl _, by omega, NdSl.nil _ _ _, h⟩
end Go.Proofs.YtnhcjpmamgdeoaaGreatDoor
