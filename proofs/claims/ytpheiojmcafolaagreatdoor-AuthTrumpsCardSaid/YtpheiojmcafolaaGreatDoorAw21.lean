/-
  THE WALK: the laws' comparison of any nodes.
  THE WALK of the law TruthSplits; the fact that its laws begin with.
-/
import Derived.Test.YtpheiojmcafolaaGreatDoorAw11
import Derived.Test.YtpheiojmcafolaaGreatDoorAw06
import Derived.BigQuiet
import Derived.IntWalk
import Derived.Laws.BitsAllLaws
import Derived.RangeFuncBox
import Derived.RangeFuncLeaves
import Derived.Shelf.Abstract
import Derived.OwnWalkIn
import Derived.TacticsInMore
import Derived.LoopNIn
import Derived.LoopIn
import Derived.Maps.AppendAt
import Derived.Lib.Hide
import Derived.Test.YtpheiojmcafolaaGreatDoorAw05
import Derived.Test.YtpheiojmcafolaaGreatDoorAw01
import Derived.Deep.RegionHeld3
namespace Go.Proofs.YtpheiojmcafolaaGreatDoor
open Go.RowKit Go.Sort
theorem take_ne {α : Type} {xs ys : List α} {k : Nat} {x y : α} (hx : xs[k]? = some x) (hy : ys[k]? = some y) (h : xs.take k = ys.take k) (e : x = y) : xs.take (k + 1) = ys.take (k + 1) := by
 rw [List.take_add_one, List.take_add_one, hx, hy, h, e]
set_option maxHeartbeats 1600000 in
set_option maxRecDepth 100000 in
theorem sameX (xs ys : List Nd) (A1 A2 : Option Addr) (c1 c2 : Nat) (w : World) (h1 : NdSl w w.heap.size A1 xs) (h2 : NdSl w w.heap.size A2 ys) (l1 : xs.length ≤ 9223372036854775807) :
   Calls Tryz.prog 20 #[.slice A1 xs.length c1, .slice A2 ys.length c2] w fun r w' => r = .returned (.bool (decide (xs = ys))) ∧ RowKit.Below w.heap.size w w' := by
 have H1 := Lib.hid h1
 have H2 := Lib.hid h2
 clear h1 h2
 by_cases hl : xs.length = ys.length
 case neg =>
   have hne : ((xs.length : Int) != (ys.length : Int)) = true := by simp; omega
   have hq : decide (xs = ys) = false := by simp; intro h; exact hl (by rw [h])
   rw [hq]
   clear hq hl
   go_enter Tryz.func20, Tryz.ntmps20
   go_wp2_with fail
   go_ret
   exact ⟨rfl, RowKit.Below.refl _ _⟩
 have hne : ((xs.length : Int) != (ys.length : Int)) = false := by simp [hl]
 have hne2 : decide (xs.length = ys.length) = true := by simp [hl]
 obtain ⟨Q, hQ⟩ : ∃ Q, decide (xs = ys) = Q := ⟨_, rfl⟩
 have HQ := Lib.hid hQ
 rw [hQ]
 have HL := Lib.hid hl
 clear hQ hl
 go_enter Tryz.func20, Tryz.ntmps20
 go_wp2_with fail
 go_loopw [5] (fun kk wr => ∃ k : Nat, kk = .int .i64 k ∧ k ≤ xs.length ∧ Hid (xs.take k = ys.take k) ∧ RowKit.Below w.heap.size w wr) (fun kk _ => xs.length - (intOf kk).toNat)
 case atStart => exact ⟨0, rfl, by omega, Lib.hid rfl, RowKit.Below.refl _ _⟩
 case round =>
   obtain ⟨k, rfl, hk, HT, hbr⟩ := hrel
   by_cases hlt : k < xs.length
   · obtain ⟨b, o, rfl, hb, hcs⟩ := (H1.out.below hbr).at_ hlt
     obtain ⟨b2, o2, rfl, hb2, hcs2⟩ := (H2.out.below hbr).at_ (show k < ys.length by rw [← HL.out]; exact hlt)
     obtain ⟨x, hx⟩ : ∃ x, xs[k]? = some x := ⟨_, List.getElem?_eq_getElem hlt⟩
     obtain ⟨y, hy⟩ : ∃ y, ys[k]? = some y := ⟨_, List.getElem?_eq_getElem (by rw [← HL.out]; exact hlt)⟩
     obtain ⟨d0, d1, d2, d3⟩ := hcs k x hx
     obtain ⟨f0, f1, f2, f3⟩ := hcs2 k y hy
     have i2 : (k : Int) < (ys.length : Int) := by rw [← HL.out]; omega
     have HX := Lib.hid hx
     have HY := Lib.hid hy
     have hneq := neq_nd x y
     clear hcs hcs2 hx hy
     by_cases he : x = y
     · have tn : decide (x = y) = true := by simpa using he
       have HT2 := Lib.hid (take_ne HX.out HY.out HT.out he)
       clear he
       go_wp2_with fail
       go_quiet (fail)
       go_wp2_with fail
       exact ⟨⟨k + 1, by go_num, by omega, HT2, below_drewN hbr _⟩, by simp [intOf]; omega⟩
     · have tn : decide (x = y) = false := by simpa using he
       have hqf : Q = false := by
         rw [← HQ.out]
         simp only [decide_eq_false_iff_not]
         intro h
         have h1 := HX.out
         rw [h] at h1
         exact he (Option.some.inj (h1.symm.trans HY.out))
       subst hqf
       clear he
       go_wp2_with fail
       go_quiet (fail)
       go_wp2_with fail
       go_ret
       exact ⟨rfl, below_drewN hbr _⟩
   · have hkk : k = xs.length := by omega
     subst hkk
     have hqt : Q = true := by
       rw [← HQ.out]
       have h := HT.out
       rw [List.take_length, HL.out, List.take_length] at h
       simpa using h
     subst hqt
     go_wp2_with fail
     go_ret
     exact ⟨rfl, hbr⟩
end Go.Proofs.YtpheiojmcafolaaGreatDoor
namespace Go.Proofs.YtpheiojmcafolaaGreatDoor
open Go.RowKit Go.Sort
theorem r3_Truth (b : Bool) (w : World) : Calls Tryz.prog 18 #[.bool b] w fun r w' => ∃ A c, r = .returned (.slice A 1 c) ∧ NsGood w' w'.heap.size ⟨A, c, [trN b]⟩ ∧ RowKit.Below w.heap.size w w' := by
 have hg : ∀ (x : Nd), NsGood (w.alloc (.cells #[.int .i64 x.op, .int .i64 x.n, .string x.s, .string x.t] 37)) (w.alloc (.cells #[.int .i64 x.op, .int .i64 x.n, .string x.s, .string x.t] 37)).heap.size ⟨some ⟨w.heap.size, 0, none⟩, 1, [x]⟩ := by
   intro x
   refine ⟨fun _ => ⟨w.heap.size, 0, rfl, by simp, fun i y hy => ?_⟩, Nat.le_refl _, by show 1 ≤ 9223372036854775807; omega⟩
   cases i with
   | succ i => simp at hy
   | zero =>
     simp at hy; subst hy
     exact ⟨by rw [World.cell?_alloc_new]; rfl, by rw [World.cell?_alloc_new]; rfl, by rw [World.cell?_alloc_new]; rfl, by rw [World.cell?_alloc_new]; rfl⟩
 cases b
 all_goals
   go_enter Tryz.func18, Tryz.ntmps18
   go_wp2_with fail
   go_ret
 · exact ⟨_, _, rfl, hg (trN false), by (repeat (first | assumption | exact Below.refl _ _ | apply Below.drew | apply below_drewN | (refine Below.alloc ?_ (by first | exact Nat.le_refl _ | omega | (simp; done) | (simp; omega)) _)))⟩
 · exact ⟨_, _, rfl, hg (trN true), by (repeat (first | assumption | exact Below.refl _ _ | apply Below.drew | apply below_drewN | (refine Below.alloc ?_ (by first | exact Nat.le_refl _ | omega | (simp; done) | (simp; omega)) _)))⟩
end Go.Proofs.YtpheiojmcafolaaGreatDoor
