/-
  THE WALKS of package val: shaped.
  THE WALKS: cmp.Compare at int, cmp.Or at int, val.compare.
  THE WALKS: slices.CompareFunc at nodes, val.order.
-/
import Derived.Test.YtnhcjpmamgdeoaaGreatDoorNames
import Derived.Test.YtnhcjpmamgdeoaaGreatDoorShelf
import Derived.Deep.RegionHeld3
import Derived.Test.YtnhcjpmamgdeoaaGreatDoorBase
namespace Go.Proofs.YtnhcjpmamgdeoaaGreatDoor
open Go.RowKit

set_option maxHeartbeats 1600000 in
theorem val_shaped (op n : Int) (s t : ByteArray) (w : World) (hs : s.size ≤ 140737488351232) (ht : t.size ≤ 140737488351232) :
    Calls Tryz.prog 95 #[.agg #[.int .i64 op, .int .i64 n, .string s, .string t]] w fun e w' => e = .returned (.bool (shapedV ⟨op, n, s, t⟩)) ∧ Below w.heap.size w w' := by
  go_enter Tryz.func95, Tryz.ntmps95
  go_wp2_with (first | (go_at_call 27; refine (name_Check _ _ hs).mono ?_; rintro e w1 ⟨rfl, hb⟩; obtain ⟨hc, hf⟩ := bcell hb) | (go_at_call 107; refine (name_Plain _ _ (by assumption)).mono ?_; rintro e w2 ⟨rfl, hb2⟩))
  all_goals
    go_ret
    refine ⟨ret_bool ?_, ?_⟩
    · simp only [beq_iff_eq, beq_eq_false_iff_ne] at *
      simp [shapedV, *] <;> omega
    · first
        | exact (Below.refl _ _).alloc (Nat.le_refl _) _
        | exact ((Below.refl _ _).alloc (Nat.le_refl _) _).trans (hb.mono (by simp))
        | exact ((Below.refl _ _).alloc (Nat.le_refl _) _).trans (hb2.mono (by simp))
        | exact (((Below.refl _ _).alloc (Nat.le_refl _) _).trans (hb.mono (by simp))).trans (hb2.mono (by have := hb.size; simp at this; omega))
end Go.Proofs.YtnhcjpmamgdeoaaGreatDoor
namespace Go.Proofs.YtnhcjpmamgdeoaaGreatDoor
open Go.RowKit

set_option maxHeartbeats 400000 in
theorem cmp_Compare (a b : Int) (w : World) :
    Calls Tryz.prog 134 #[.int .i64 a, .int .i64 b] w fun e w' => e = .returned (.int .i64 (cmpI a b)) ∧ w = w' := by
  go_enter Tryz.func134, Tryz.ntmps134
  go_wp2
  all_goals (go_ret; exact ⟨ret_int (by simp [cmpI]; omega), rfl⟩)

set_option maxHeartbeats 400000 in
theorem cmp_Or (b o c : Nat) (l : List Int) (w : World) (hl : l.length ≤ 1000) (hc : ∀ i, i < l.length → w.cell? ⟨b, o + i, none⟩ = some (.int .i64 (l.getD i 0))) :
    Calls Tryz.prog 133 #[.slice (some ⟨b, o, none⟩) l.length c] w fun e w' => e = .returned (.int .i64 (orI l)) ∧ w = w' := by
  have HC := Lib.hid hc
  clear hc
  go_enter Tryz.func133, Tryz.ntmps133
  go_wp2_with fail
  go_loop [8] (fun i => ∃ k : Nat, k ≤ l.length ∧ i = .int .i64 k ∧ Hid (orI l = orI (l.drop k))) (fun i => l.length - (intOf i).toNat)
  case atStart => exact ⟨0, by omega, rfl, rfl⟩
  case round =>
    obtain ⟨k, hk, rfl, HK⟩ := hrel
    by_cases hlt : k < l.length
    · have hcell := HC.out k hlt
      have HD : Hid (l.drop k = l.getD k 0 :: l.drop (k + 1)) := by
        show _ = _
        rw [List.drop_eq_getElem_cons hlt]; simp [List.getD, hlt]
      obtain ⟨x, hx⟩ : ∃ x, x = l.getD k 0 := ⟨_, rfl⟩
      rw [← hx] at hcell
      have HX := Lib.hid hx
      clear hx
      by_cases h0 : x = 0
      · have h0' : (x != 0) = false := by simp [h0]
        go_wp2_with fail
        go_round
        case rel => exact ⟨k + 1, by omega, by go_num, HK.out.trans (by rw [HD.out, ← HX.out]; simp [orI, h0])⟩
        case measure => simp [intOf]; omega
      · have h0' : (x != 0) = true := by simp [h0]
        go_wp2_with fail
        go_ret
        exact ⟨ret_int (by rw [HK.out, HD.out, ← HX.out]; simp [orI, h0]), rfl⟩
    · have : l.drop k = [] := List.drop_eq_nil_of_le (by omega)
      have HD := Lib.hid this
      clear this
      go_wp2_with fail
      go_ret
      exact ⟨ret_int (by rw [HK.out, HD.out]; rfl), rfl⟩

theorem cmp_Or4 (b c : Nat) (p q r s : Int) (w : World) (h0 : w.cell? ⟨b, 0, none⟩ = some (.int .i64 p)) (h1 : w.cell? ⟨b, 1, none⟩ = some (.int .i64 q)) (h2 : w.cell? ⟨b, 2, none⟩ = some (.int .i64 r)) (h3 : w.cell? ⟨b, 3, none⟩ = some (.int .i64 s)) :
    Calls Tryz.prog 133 #[.slice (some ⟨b, 0, none⟩) 4 c] w fun e w' => e = .returned (.int .i64 (orI [p, q, r, s])) ∧ w = w' :=
  cmp_Or b 0 c [p, q, r, s] w (by simp) (fun i hi => by
    match i, hi with
    | 0, _ => exact h0
    | 1, _ => exact h1
    | 2, _ => exact h2
    | 3, _ => exact h3
    | n + 4, hi => simp at hi; omega)

set_option maxHeartbeats 800000 in
theorem val_compare (x y : Nd) (w : World) :
    Calls Tryz.prog 116 #[.agg #[.int .i64 x.op, .int .i64 x.n, .string x.s, .string x.t], .agg #[.int .i64 y.op, .int .i64 y.n, .string y.s, .string y.t]] w fun e w' => e = .returned (.int .i64 (ndCmp x y)) ∧ Below w.heap.size w w' := by
  go_enter Tryz.func116, Tryz.ntmps116
  go_wp2_with fail
  go_region_held3 (fun w' => w'.cell? ⟨w.heap.size, 0, none⟩ = some (.int .i64 x.op) ∧ w'.cell? ⟨w.heap.size, 1, none⟩ = some (.int .i64 x.n) ∧ w'.cell? ⟨w.heap.size, 2, none⟩ = some (.string x.s) ∧ w'.cell? ⟨w.heap.size, 3, none⟩ = some (.string x.t) ∧ w'.cell? ⟨w.heap.size + 1, 0, none⟩ = some (.int .i64 y.op) ∧ w'.cell? ⟨w.heap.size + 1, 1, none⟩ = some (.int .i64 y.n) ∧ w'.cell? ⟨w.heap.size + 1, 2, none⟩ = some (.string y.s) ∧ w'.cell? ⟨w.heap.size + 1, 3, none⟩ = some (.string y.t)) (simp [go_sem, World.cell?_alloc_past])
    (first
      | (go_at_call 134; refine (cmp_Compare _ _ _).mono ?_; rintro e w' ⟨rfl, rfl⟩)
      | (go_at_call 91; refine (Tryz.strings_Compare _ _ _).mono ?_; rintro e w' ⟨rfl, rfl⟩)
      | (go_at_call 133; refine (cmp_Or4 _ _ (cmpI x.op y.op) (cmpI x.n y.n) (Lib.compareBytes x.s.data.toList y.s.data.toList) (Lib.compareBytes x.t.data.toList y.t.data.toList) _ (by simp [go_sem]) (by simp [go_sem]) (by simp [go_sem]) (by simp [go_sem])).mono ?_; rintro e w' ⟨rfl, rfl⟩))
  all_goals go_wp2
  all_goals go_ret
  all_goals exact ⟨rfl, by (repeat (first | assumption | exact Below.refl _ _ | apply Below.drew | apply below_drewN | (refine Below.alloc ?_ (by first | exact Nat.le_refl _ | omega | (simp; done) | (simp; omega)) _)))⟩
end Go.Proofs.YtnhcjpmamgdeoaaGreatDoor
namespace Go.Proofs.YtnhcjpmamgdeoaaGreatDoor
open Go.RowKit

set_option maxHeartbeats 800000 in
theorem CompareFunc (A1 A2 : Option Addr) (c1 c2 : Nat) (xs ys : List Nd) (w : World) (h1 : NdSl w w.heap.size A1 xs) (h2 : NdSl w w.heap.size A2 ys) (l1 : xs.length ≤ 9223372036854775807) (l2 : ys.length ≤ 9223372036854775807) :
    Calls Tryz.prog 115 #[.slice A1 xs.length c1, .slice A2 ys.length c2, .func (.func 116) #[] #[]] w fun e w' => e = .returned (.int .i64 (ndsCmp xs ys)) ∧ Below w.heap.size w w' := by
  have H1 := Lib.hid h1
  have H2 := Lib.hid h2
  clear h1 h2
  go_enter Tryz.func115, Tryz.ntmps115
  go_wp2_with fail
  go_loopw [13] (fun i wr => ∃ k : Nat, k ≤ xs.length ∧ k ≤ ys.length ∧ i = .int .i64 k ∧ Hid (ndsCmp xs ys = ndsCmp (xs.drop k) (ys.drop k)) ∧ Below w.heap.size w wr) (fun i _ => xs.length - (intOf i).toNat)
  case atStart => exact ⟨0, by omega, by omega, rfl, rfl, Below.refl _ _⟩
  case round =>
    obtain ⟨k, hk, hk2, rfl, HK, hbel⟩ := hrel
    have hwr := hbel.size
    by_cases hlt : k < xs.length
    · obtain ⟨b, o, rfl, hbl, hc⟩ := (H1.out.below hbel).at_ hlt
      obtain ⟨x, hx⟩ : ∃ x, xs[k]? = some x := ⟨_, List.getElem?_eq_getElem hlt⟩
      obtain ⟨d0, d1, d2, d3⟩ := hc k x hx
      have HX : Hid (xs.drop k = x :: xs.drop (k + 1)) := by
        show _ = _
        rw [List.drop_eq_getElem_cons hlt]; rw [List.getElem?_eq_getElem hlt] at hx; injection hx with hx; rw [hx]
      clear hc hx
      by_cases hlt2 : k < ys.length
      · obtain ⟨b2, o2, rfl, hbl2, hc⟩ := (H2.out.below hbel).at_ hlt2
        obtain ⟨y, hy⟩ : ∃ y, ys[k]? = some y := ⟨_, List.getElem?_eq_getElem hlt2⟩
        obtain ⟨e0, e1, e2, e3⟩ := hc k y hy
        have HY : Hid (ys.drop k = y :: ys.drop (k + 1)) := by
          show _ = _
          rw [List.drop_eq_getElem_cons hlt2]; rw [List.getElem?_eq_getElem hlt2] at hy; injection hy with hy; rw [hy]
        clear hc hy
        have hwr := hbel.size
        have g1 : b < wr.heap.size := by omega
        have g2 : b2 < wr.heap.size := by omega
        go_wp2_with (go_at_call 116; refine (val_compare x y _).mono ?_; rintro e w1 ⟨rfl, hb1⟩)
        · go_ret
          have hne : (ndCmp x y != 0) = true := by assumption
          have hne' : ¬ ndCmp x y = 0 := by simpa using hne
          exact ⟨ret_int (by rw [HK.out, HX.out, HY.out, ndsCmp, if_neg hne']), hbel.trans ((by (repeat (first | assumption | exact Below.refl _ _ | apply Below.drew | apply below_drewN | (refine Below.alloc ?_ (by first | exact Nat.le_refl _ | omega | (simp; done) | (simp; omega)) _))) : Below w.heap.size wr _).trans (hb1.mono (by simp; omega)))⟩
        · have hne : (ndCmp x y != 0) = false := by assumption
          have hne' : ndCmp x y = 0 := by simpa using hne
          go_roundw
          case rel => exact ⟨k + 1, by omega, by omega, by go_num, by rw [Hid, HK.out, HX.out, HY.out, ndsCmp, if_pos hne'], hbel.trans ((by (repeat (first | assumption | exact Below.refl _ _ | apply Below.drew | apply below_drewN | (refine Below.alloc ?_ (by first | exact Nat.le_refl _ | omega | (simp; done) | (simp; omega)) _))) : Below w.heap.size wr _).trans (hb1.mono (by simp; omega)))⟩
          case measure => simp [intOf]; omega
      · have HY : Hid (ys.drop k = []) := List.drop_eq_nil_of_le (by omega)
        go_wp2_with fail
        go_ret
        exact ⟨ret_int (by rw [HK.out, HX.out, HY.out]; rfl), hbel.trans (by (repeat (first | assumption | exact Below.refl _ _ | apply Below.drew | apply below_drewN | (refine Below.alloc ?_ (by first | exact Nat.le_refl _ | omega | (simp; done) | (simp; omega)) _))))⟩
    · have HX : Hid (xs.drop k = []) := List.drop_eq_nil_of_le (by omega)
      by_cases hl : xs.length < ys.length
      · have HY : Hid (∃ y l, ys.drop k = y :: l) := ⟨_, _, List.drop_eq_getElem_cons (by omega)⟩
        go_wp2_with fail
        go_ret
        obtain ⟨y, l, hyl⟩ := HY.out
        exact ⟨ret_int (by rw [HK.out, HX.out, hyl]; rfl), hbel⟩
      · have HY : Hid (ys.drop k = []) := List.drop_eq_nil_of_le (by omega)
        go_wp2_with fail
        go_ret
        exact ⟨ret_int (by rw [HK.out, HX.out, HY.out]; rfl), hbel⟩

set_option maxHeartbeats 400000 in
theorem val_order (A1 A2 : Option Addr) (c1 c2 : Nat) (xs ys : List Nd) (w : World) (h1 : NdSl w w.heap.size A1 xs) (h2 : NdSl w w.heap.size A2 ys) (l1 : xs.length ≤ 9223372036854775807) (l2 : ys.length ≤ 9223372036854775807) :
    Calls Tryz.prog 96 #[.slice A1 xs.length c1, .slice A2 ys.length c2] w fun e w' => e = .returned (.int .i64 (ndsCmp xs ys)) ∧ Below w.heap.size w w' := by
  have H1 := Lib.hid h1
  have H2 := Lib.hid h2
  clear h1 h2
  go_enter Tryz.func96, Tryz.ntmps96
  go_wp2_with (go_at_call 115; refine (CompareFunc A1 A2 c1 c2 xs ys _ H1.out H2.out l1 l2).mono ?_; rintro e w1 ⟨rfl, hb1⟩)
  go_ret
  exact ⟨rfl, hb1⟩
end Go.Proofs.YtnhcjpmamgdeoaaGreatDoor
