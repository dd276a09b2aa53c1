/-
  THE WALKS: val.compare, CompareFunc, val.order, and that the draws go on.
-/
import Derived.Test.YtnhcjpmamgdeoaaGreatDoorValA
import Derived.Sort.Grow
namespace Go.Proofs.YtnhcjpmamgdeoaaGreatDoor
open Go.RowKit

/-- What lies behind: so many draws, some blocks. -/
theorem grown_of_below {w w' : World} (h : RowKit.Below w.heap.size w w') (hd : w.drawn ≤ w'.drawn) : ∃ q os', w' = Sort.grow (w.drewN q) os' := by
  refine ⟨w'.drawn - w.drawn, w'.heap.extract w.heap.size w'.heap.size, ?_⟩
  have e1 : w.heap ++ w'.heap.extract w.heap.size w'.heap.size = w'.heap := by
    apply Array.ext_getElem?
    intro k
    by_cases hk : k < w.heap.size
    · rw [Array.getElem?_append_left hk]; exact (h.block k hk).symm
    · rw [Array.getElem?_append_right (by omega)]
      by_cases hk2 : k < w'.heap.size
      · rw [Array.getElem?_extract]
        rw [if_pos (by omega)]
        congr 1; omega
      · rw [Array.getElem?_eq_none (by simp; omega), Array.getElem?_eq_none (by omega)]
  have e2 : (w.drewN (w'.drawn - w.drawn)).drawn = w'.drawn := by show w.drawn + (w'.drawn - w.drawn) = _; omega
  cases w' with
  | mk heap tape drawn os output =>
    have := h.os
    have := h.tape
    have := h.output
    simp only at *
    unfold Sort.grow
    rw [show (w.drewN (drawn - w.drawn)).heap = w.heap from rfl, e1]
    congr
    · exact e2.symm
set_option maxHeartbeats 800000 in
theorem val_compareD (x y : Nd) (w : World) :
    Calls Tryz.prog 116 #[.agg #[.int .i64 x.op, .int .i64 x.n, .string x.s, .string x.t], .agg #[.int .i64 y.op, .int .i64 y.n, .string y.s, .string y.t]] w fun e w' => e = .returned (.int .i64 (ndCmp x y)) ∧ Below w.heap.size w w' ∧ w.drawn ≤ w'.drawn := by
  go_enter Tryz.func116, Tryz.ntmps116
  go_wp2_with fail
  go_region_held3 (fun w' => w'.cell? ⟨w.heap.size, 0, none⟩ = some (.int .i64 x.op) ∧ w'.cell? ⟨w.heap.size, 1, none⟩ = some (.int .i64 x.n) ∧ w'.cell? ⟨w.heap.size, 2, none⟩ = some (.string x.s) ∧ w'.cell? ⟨w.heap.size, 3, none⟩ = some (.string x.t) ∧ w'.cell? ⟨w.heap.size + 1, 0, none⟩ = some (.int .i64 y.op) ∧ w'.cell? ⟨w.heap.size + 1, 1, none⟩ = some (.int .i64 y.n) ∧ w'.cell? ⟨w.heap.size + 1, 2, none⟩ = some (.string y.s) ∧ w'.cell? ⟨w.heap.size + 1, 3, none⟩ = some (.string y.t)) (simp [go_sem, World.cell?_alloc_past])
    (first
      | (go_at_call 134; refine (cmp_Compare _ _ _).mono ?_; rintro e w' ⟨rfl, rfl⟩)
      | (go_at_call 91; refine (Tryz.strings_Compare _ _ _).mono ?_; rintro e w' ⟨rfl, rfl⟩)
      | (go_at_call 133; refine (cmp_Or4 _ _ (cmpI x.op y.op) (cmpI x.n y.n) (Lib.compareBytes x.s.data.toList y.s.data.toList) (Lib.compareBytes x.t.data.toList y.t.data.toList) _ (by simp [go_sem]) (by simp [go_sem]) (by simp [go_sem]) (by simp [go_sem])).mono ?_; rintro e w' ⟨rfl, rfl⟩))
  all_goals go_wp2
  all_goals go_ret
  all_goals exact ⟨rfl, by (repeat (first | assumption | exact Below.refl _ _ | apply Below.drew | apply below_drewN | (refine Below.alloc ?_ (by first | exact Nat.le_refl _ | omega | (simp; done) | (simp; omega)) _))), by simp; try omega⟩
end Go.Proofs.YtnhcjpmamgdeoaaGreatDoor
namespace Go.Proofs.YtnhcjpmamgdeoaaGreatDoor
open Go.RowKit

set_option maxHeartbeats 800000 in
theorem CompareFuncD (A1 A2 : Option Addr) (c1 c2 : Nat) (xs ys : List Nd) (w : World) (h1 : NdSl w w.heap.size A1 xs) (h2 : NdSl w w.heap.size A2 ys) (l1 : xs.length ≤ 9223372036854775807) (l2 : ys.length ≤ 9223372036854775807) :
    Calls Tryz.prog 115 #[.slice A1 xs.length c1, .slice A2 ys.length c2, .func (.func 116) #[] #[]] w fun e w' => e = .returned (.int .i64 (ndsCmp xs ys)) ∧ Below w.heap.size w w' ∧ w.drawn ≤ w'.drawn := by
  have H1 := Lib.hid h1
  have H2 := Lib.hid h2
  clear h1 h2
  go_enter Tryz.func115, Tryz.ntmps115
  go_wp2_with fail
  go_loopw [13] (fun i wr => ∃ k : Nat, k ≤ xs.length ∧ k ≤ ys.length ∧ i = .int .i64 k ∧ Hid (ndsCmp xs ys = ndsCmp (xs.drop k) (ys.drop k)) ∧ Below w.heap.size w wr ∧ w.drawn ≤ wr.drawn) (fun i _ => xs.length - (intOf i).toNat)
  case atStart => exact ⟨0, by omega, by omega, rfl, rfl, Below.refl _ _, Nat.le_refl _⟩
  case round =>
    obtain ⟨k, hk, hk2, rfl, HK, hbel, hdr⟩ := hrel
    have hwr := hbel.size
    by_cases hlt : k < xs.length
    · obtain ⟨b, o, rfl, hbl, hc⟩ := (H1.out.below hbel).at_ hlt
      obtain ⟨x, hx⟩ : ∃ x, xs[k]? = some x := ⟨_, List.getElem?_eq_getElem hlt⟩
      obtain ⟨d0, d1, d2, d3⟩ := hc k x hx
      have HX : Hid (xs.drop k = x :: xs.drop (k + 1)) := by
        show _ = _
        rw [List.drop_eq_getElem_cons hlt]; rw [List.getElem?_eq_getElem hlt] at hx; injection hx with hx; rw [hx]
      clear hc hx
      by_cases hlt2 : k < ys.length
      · obtain ⟨b2, o2, rfl, hbl2, hc⟩ := (H2.out.below hbel).at_ hlt2
        obtain ⟨y, hy⟩ : ∃ y, ys[k]? = some y := ⟨_, List.getElem?_eq_getElem hlt2⟩
        obtain ⟨e0, e1, e2, e3⟩ := hc k y hy
        have HY : Hid (ys.drop k = y :: ys.drop (k + 1)) := by
          show _ = _
          rw [List.drop_eq_getElem_cons hlt2]; rw [List.getElem?_eq_getElem hlt2] at hy; injection hy with hy; rw [hy]
        clear hc hy
        have hwr := hbel.size
        have g1 : b < wr.heap.size := by omega
        have g2 : b2 < wr.heap.size := by omega
        go_wp2_with (go_at_call 116; refine (val_compareD x y _).mono ?_; rintro e w1 ⟨rfl, hb1, hd1⟩)
        · go_ret
          have hne : (ndCmp x y != 0) = true := by assumption
          have hne' : ¬ ndCmp x y = 0 := by simpa using hne
          exact ⟨ret_int (by rw [HK.out, HX.out, HY.out, ndsCmp, if_neg hne']), hbel.trans ((by (repeat (first | assumption | exact Below.refl _ _ | apply Below.drew | apply below_drewN | (refine Below.alloc ?_ (by first | exact Nat.le_refl _ | omega | (simp; done) | (simp; omega)) _))) : Below w.heap.size wr _).trans (hb1.mono (by simp; omega))), by simp at hd1; omega⟩
        · have hne : (ndCmp x y != 0) = false := by assumption
          have hne' : ndCmp x y = 0 := by simpa using hne
          go_roundw
          case rel => exact ⟨k + 1, by omega, by omega, by go_num, by rw [Hid, HK.out, HX.out, HY.out, ndsCmp, if_pos hne'], hbel.trans ((by (repeat (first | assumption | exact Below.refl _ _ | apply Below.drew | apply below_drewN | (refine Below.alloc ?_ (by first | exact Nat.le_refl _ | omega | (simp; done) | (simp; omega)) _))) : Below w.heap.size wr _).trans (hb1.mono (by simp; omega))), by simp at hd1; omega⟩
          case measure => simp [intOf]; omega
      · have HY : Hid (ys.drop k = []) := List.drop_eq_nil_of_le (by omega)
        go_wp2_with fail
        go_ret
        exact ⟨ret_int (by rw [HK.out, HX.out, HY.out]; rfl), hbel.trans (by (repeat (first | assumption | exact Below.refl _ _ | apply Below.drew | apply below_drewN | (refine Below.alloc ?_ (by first | exact Nat.le_refl _ | omega | (simp; done) | (simp; omega)) _)))), by simpa using hdr⟩
    · have HX : Hid (xs.drop k = []) := List.drop_eq_nil_of_le (by omega)
      by_cases hl : xs.length < ys.length
      · have HY : Hid (∃ y l, ys.drop k = y :: l) := ⟨_, _, List.drop_eq_getElem_cons (by omega)⟩
        go_wp2_with fail
        go_ret
        obtain ⟨y, l, hyl⟩ := HY.out
        exact ⟨ret_int (by rw [HK.out, HX.out, hyl]; rfl), hbel, hdr⟩
      · have HY : Hid (ys.drop k = []) := List.drop_eq_nil_of_le (by omega)
        go_wp2_with fail
        go_ret
        exact ⟨ret_int (by rw [HK.out, HX.out, HY.out]; rfl), hbel, hdr⟩

set_option maxHeartbeats 400000 in
theorem val_orderD (A1 A2 : Option Addr) (c1 c2 : Nat) (xs ys : List Nd) (w : World) (h1 : NdSl w w.heap.size A1 xs) (h2 : NdSl w w.heap.size A2 ys) (l1 : xs.length ≤ 9223372036854775807) (l2 : ys.length ≤ 9223372036854775807) :
    Calls Tryz.prog 96 #[.slice A1 xs.length c1, .slice A2 ys.length c2] w fun e w' => e = .returned (.int .i64 (ndsCmp xs ys)) ∧ Below w.heap.size w w' ∧ w.drawn ≤ w'.drawn := by
  have H1 := Lib.hid h1
  have H2 := Lib.hid h2
  clear h1 h2
  go_enter Tryz.func96, Tryz.ntmps96
  go_wp2_with (go_at_call 115; refine (CompareFuncD A1 A2 c1 c2 xs ys _ H1.out H2.out l1 l2).mono ?_; rintro e w1 ⟨rfl, hb1, hd1⟩)
  go_ret
  exact ⟨rfl, hb1, hd1⟩
end Go.Proofs.YtnhcjpmamgdeoaaGreatDoor
