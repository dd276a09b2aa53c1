/-
  THE WALKS: slices.CompareFunc at nodes, val.order.
-/
import Derived.Test.YtbommoefpekalaaGreatVal2
import Derived.Test.YtbommoefpekalaaGreatNodes
namespace Go.Proofs.YtbommoefpekalaaGreat
open Go.RowKit

set_option maxHeartbeats 800000 in
theorem CompareFunc (A1 A2 : Option Addr) (c1 c2 : Nat) (xs ys : List Nd) (w : World) (h1 : NdSl w w.heap.size A1 xs) (h2 : NdSl w w.heap.size A2 ys) (l1 : xs.length ≤ 9223372036854775807) (l2 : ys.length ≤ 9223372036854775807) :
    Calls Tryz.prog 51 #[.slice A1 xs.length c1, .slice A2 ys.length c2, .func (.func 52) #[] #[]] w fun e w' => e = .returned (.int .i64 (ndsCmp xs ys)) ∧ Below w.heap.size w w' := by
  have H1 := Lib.hid h1
  have H2 := Lib.hid h2
  clear h1 h2
  go_enter Tryz.func51, Tryz.ntmps51
  go_wp2_with fail
  go_loopw [13] (fun i wr => ∃ k : Nat, k ≤ xs.length ∧ k ≤ ys.length ∧ i = .int .i64 k ∧ Hid (ndsCmp xs ys = ndsCmp (xs.drop k) (ys.drop k)) ∧ Below w.heap.size w wr) (fun i _ => xs.length - (intOf i).toNat)
  case atStart => exact ⟨0, by omega, by omega, rfl, rfl, Below.refl _ _⟩
  case round =>
    obtain ⟨k, hk, hk2, rfl, HK, hbel⟩ := hrel
    have hwr := hbel.size
    by_cases hlt : k < xs.length
    · obtain ⟨b, o, rfl, hbl, hc⟩ := (H1.out.below hbel).at_ hlt
      obtain ⟨x, hx⟩ : ∃ x, xs[k]? = some x := ⟨_, List.getElem?_eq_getElem hlt⟩
      obtain ⟨d0, d1, d2, d3⟩ := hc k x hx
      have HX : Hid (xs.drop k = x :: xs.drop (k + 1)) := by
        show _ = _
        rw [List.drop_eq_getElem_cons hlt]; rw [List.getElem?_eq_getElem hlt] at hx; injection hx with hx; rw [hx]
      clear hc hx
      by_cases hlt2 : k < ys.length
      · obtain ⟨b2, o2, rfl, hbl2, hc⟩ := (H2.out.below hbel).at_ hlt2
        obtain ⟨y, hy⟩ : ∃ y, ys[k]? = some y := ⟨_, List.getElem?_eq_getElem hlt2⟩
        obtain ⟨e0, e1, e2, e3⟩ := hc k y hy
        have HY : Hid (ys.drop k = y :: ys.drop (k + 1)) := by
          show _ = _
          rw [List.drop_eq_getElem_cons hlt2]; rw [List.getElem?_eq_getElem hlt2] at hy; injection hy with hy; rw [hy]
        clear hc hy
        have hwr := hbel.size
        have g1 : b < wr.heap.size := by omega
        have g2 : b2 < wr.heap.size := by omega
        go_wp2_with (go_at_call 52; refine (val_compare x y _).mono ?_; rintro e w1 ⟨rfl, hb1⟩)
        · go_ret
          have hne : (ndCmp x y != 0) = true := by assumption
          have hne' : ¬ ndCmp x y = 0 := by simpa using hne
          exact ⟨ret_int (by rw [HK.out, HX.out, HY.out, ndsCmp, if_neg hne']), hbel.trans ((by (repeat (first | assumption | exact Below.refl _ _ | apply Below.drew | apply below_drewN | (refine Below.alloc ?_ (by first | exact Nat.le_refl _ | omega | (simp; done) | (simp; omega)) _))) : Below w.heap.size wr _).trans (hb1.mono (by simp; omega)))⟩
        · have hne : (ndCmp x y != 0) = false := by assumption
          have hne' : ndCmp x y = 0 := by simpa using hne
          go_roundw
          case rel => exact ⟨k + 1, by omega, by omega, by go_num, by rw [Hid, HK.out, HX.out, HY.out, ndsCmp, if_pos hne'], hbel.trans ((by (repeat (first | assumption | exact Below.refl _ _ | apply Below.drew | apply below_drewN | (refine Below.alloc ?_ (by first | exact Nat.le_refl _ | omega | (simp; done) | (simp; omega)) _))) : Below w.heap.size wr _).trans (hb1.mono (by simp; omega)))⟩
          case measure => simp [intOf]; omega
      · have HY : Hid (ys.drop k = []) := List.drop_eq_nil_of_le (by omega)
        go_wp2_with fail
        go_ret
        exact ⟨ret_int (by rw [HK.out, HX.out, HY.out]; rfl), hbel.trans (by (repeat (first | assumption | exact Below.refl _ _ | apply Below.drew | apply below_drewN | (refine Below.alloc ?_ (by first | exact Nat.le_refl _ | omega | (simp; done) | (simp; omega)) _))))⟩
    · have HX : Hid (xs.drop k = []) := List.drop_eq_nil_of_le (by omega)
      by_cases hl : xs.length < ys.length
      · have HY : Hid (∃ y l, ys.drop k = y :: l) := ⟨_, _, List.drop_eq_getElem_cons (by omega)⟩
        go_wp2_with fail
        go_ret
        obtain ⟨y, l, hyl⟩ := HY.out
        exact ⟨ret_int (by rw [HK.out, HX.out, hyl]; rfl), hbel⟩
      · have HY : Hid (ys.drop k = []) := List.drop_eq_nil_of_le (by omega)
        go_wp2_with fail
        go_ret
        exact ⟨ret_int (by rw [HK.out, HX.out, HY.out]; rfl), hbel⟩

set_option maxHeartbeats 400000 in
theorem val_order (A1 A2 : Option Addr) (c1 c2 : Nat) (xs ys : List Nd) (w : World) (h1 : NdSl w w.heap.size A1 xs) (h2 : NdSl w w.heap.size A2 ys) (l1 : xs.length ≤ 9223372036854775807) (l2 : ys.length ≤ 9223372036854775807) :
    Calls Tryz.prog 44 #[.slice A1 xs.length c1, .slice A2 ys.length c2] w fun e w' => e = .returned (.int .i64 (ndsCmp xs ys)) ∧ Below w.heap.size w w' := by
  have H1 := Lib.hid h1
  have H2 := Lib.hid h2
  clear h1 h2
  go_enter Tryz.func44, Tryz.ntmps44
  go_wp2_with (go_at_call 51; refine (CompareFunc A1 A2 c1 c2 xs ys _ H1.out H2.out l1 l2).mono ?_; rintro e w1 ⟨rfl, hb1⟩)
  go_ret
  exact ⟨rfl, hb1⟩
end Go.Proofs.YtbommoefpekalaaGreat
