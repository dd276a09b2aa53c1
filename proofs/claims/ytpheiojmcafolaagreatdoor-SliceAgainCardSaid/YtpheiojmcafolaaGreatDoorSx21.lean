/-
  THE WALK: the laws' comparison of lists of policies.
-/
import Derived.Test.YtpheiojmcafolaaGreatDoorSx14
import Derived.Test.YtpheiojmcafolaaGreatDoorSx20
namespace Go.Proofs.YtpheiojmcafolaaGreatDoor
set_option maxRecDepth 100000
open Go.RowKit Go.Sort
set_option maxHeartbeats 6400000 in
theorem same_Policies (xs ys : List PoM) (hxy : xs.map PoM.p = ys.map PoM.p) (A1 A2 : Option Addr) (c1 c2 : Nat) (w : World) (h1 : PosIn w A1 xs) (h2 : PosIn w A2 ys) (l1 : xs.length ≤ 9223372036854775807) :
   Calls Tryz.prog 40 #[.slice A1 xs.length c1, .slice A2 ys.length c2] w fun r w' => r = .returned (.bool true) ∧ RowKit.Below w.heap.size w w' := by
 have hln : ys.length = xs.length := by have := congrArg List.length hxy; simpa using this.symm
 rw [hln]
 have HXY := Lib.hid hxy
 have H1 := Lib.hid h1
 have H2 := Lib.hid h2
 have HL := Lib.hid hln
 have hne : ((xs.length : Int) != (xs.length : Int)) = false := by simp
 clear h1 h2 hxy hln
 go_enter Tryz.func40, Tryz.ntmps40
 go_wp2_with fail
 go_loopw [5] (fun ii wr => ∃ k : Nat, ii = .int .i64 k ∧ k ≤ xs.length ∧ RowKit.Below w.heap.size w wr) (fun ii _ => xs.length - (intOf ii).toNat)
 case atStart => exact ⟨0, rfl, by omega, RowKit.Below.refl _ _⟩
 case round =>
   obtain ⟨k, rfl, hk, hbr⟩ := hrel
   by_cases hlt : k < xs.length
   · obtain ⟨x, hx⟩ : ∃ x, xs[k]? = some x := ⟨_, List.getElem?_eq_getElem hlt⟩
     obtain ⟨y, hy⟩ : ∃ y, ys[k]? = some y := ⟨_, List.getElem?_eq_getElem (by have := HL.out; omega)⟩
     have hp : x.p = y.p := by
       have h := congrArg (fun l => l[k]?) HXY.out
       simpa only [List.getElem?_map, hx, hy, Option.map_some, Option.some.injEq] using h
     have g1 := (H1.out.later hbr).each x (List.mem_of_getElem? hx)
     have g2 := (H2.out.later hbr).each y (List.mem_of_getElem? hy)
     obtain ⟨b1, o1, rfl, hb1, p0, p1, p2, p3, p4, p5, p6, p7, p8, p9, p10, p11, p12, p13, p14⟩ := poSl_cells (H1.out.later hbr).sl hx
     obtain ⟨b2, o2, rfl, hb2, q0, q1, q2, q3, q4, q5, q6, q7, q8, q9, q10, q11, q12, q13, q14⟩ := poSl_cells (H2.out.later hbr).sl hy
     have HS := Lib.hid (fun W (hW : RowKit.Below wr.heap.size wr W) => same_Policy x.p y.p x.cs y.cs x.A y.A x.c y.c W hp g1.same g2.same (g1.later hW).at_ (g2.later hW).at_ g1.le g1.max)
     clear g1 g2 hx hy hp
     go_wp2_with fail
     go_still_tail 8, (by kernel_rfl)
     change wpList _ _ _ _ _ wr.drew
     go_wp2_with fail
     refine (HS.out _ ((RowKit.Below.refl _ _).drew)).mono ?_
     rintro r w5 ⟨rfl, hb5⟩
     have hw5 : RowKit.Below wr.heap.size wr w5 := (RowKit.Below.refl _ _).drew.trans hb5
     have hbw := hbr.trans (hw5.mono hbr.size)
     clear hb5 hw5 p0 p1 p2 p3 p4 p5 p6 p7 p8 p9 p10 p11 p12 p13 p14 q0 q1 q2 q3 q4 q5 q6 q7 q8 q9 q10 q11 q12 q13 q14
     go_wp2_with fail
     exact ⟨⟨k + 1, by go_num, by omega, hbw⟩, by simp [intOf]; omega⟩
   · go_wp2_with fail
     go_ret
     exact ⟨rfl, hbr⟩
end Go.Proofs.YtpheiojmcafolaaGreatDoor
