/-
  THE WALKS: cmp.Compare at int, cmp.Or at int, val.compare.
-/
import Derived.Test.YtbommoefpekalaaGreatVal1
import Derived.Test.YtbommoefpekalaaGreatShelf
import Derived.Deep.RegionHeld3
namespace Go.Proofs.YtbommoefpekalaaGreat
open Go.RowKit

set_option maxHeartbeats 400000 in
theorem cmp_Compare (a b : Int) (w : World) :
    Calls Tryz.prog 60 #[.int .i64 a, .int .i64 b] w fun e w' => e = .returned (.int .i64 (cmpI a b)) ∧ w = w' := by
  go_enter Tryz.func60, Tryz.ntmps60
  go_wp2
  all_goals (go_ret; exact ⟨ret_int (by simp [cmpI]; omega), rfl⟩)

set_option maxHeartbeats 400000 in
theorem cmp_Or (b o c : Nat) (l : List Int) (w : World) (hl : l.length ≤ 1000) (hc : ∀ i, i < l.length → w.cell? ⟨b, o + i, none⟩ = some (.int .i64 (l.getD i 0))) :
    Calls Tryz.prog 59 #[.slice (some ⟨b, o, none⟩) l.length c] w fun e w' => e = .returned (.int .i64 (orI l)) ∧ w = w' := by
  have HC := Lib.hid hc
  clear hc
  go_enter Tryz.func59, Tryz.ntmps59
  go_wp2_with fail
  go_loop [8] (fun i => ∃ k : Nat, k ≤ l.length ∧ i = .int .i64 k ∧ Hid (orI l = orI (l.drop k))) (fun i => l.length - (intOf i).toNat)
  case atStart => exact ⟨0, by omega, rfl, rfl⟩
  case round =>
    obtain ⟨k, hk, rfl, HK⟩ := hrel
    by_cases hlt : k < l.length
    · have hcell := HC.out k hlt
      have HD : Hid (l.drop k = l.getD k 0 :: l.drop (k + 1)) := by
        show _ = _
        rw [List.drop_eq_getElem_cons hlt]; simp [List.getD, hlt]
      obtain ⟨x, hx⟩ : ∃ x, x = l.getD k 0 := ⟨_, rfl⟩
      rw [← hx] at hcell
      have HX := Lib.hid hx
      clear hx
      by_cases h0 : x = 0
      · have h0' : (x != 0) = false := by simp [h0]
        go_wp2_with fail
        go_round
        case rel => exact ⟨k + 1, by omega, by go_num, HK.out.trans (by rw [HD.out, ← HX.out]; simp [orI, h0])⟩
        case measure => simp [intOf]; omega
      · have h0' : (x != 0) = true := by simp [h0]
        go_wp2_with fail
        go_ret
        exact ⟨ret_int (by rw [HK.out, HD.out, ← HX.out]; simp [orI, h0]), rfl⟩
    · have : l.drop k = [] := List.drop_eq_nil_of_le (by omega)
      have HD := Lib.hid this
      clear this
      go_wp2_with fail
      go_ret
      exact ⟨ret_int (by rw [HK.out, HD.out]; rfl), rfl⟩

theorem cmp_Or4 (b c : Nat) (p q r s : Int) (w : World) (h0 : w.cell? ⟨b, 0, none⟩ = some (.int .i64 p)) (h1 : w.cell? ⟨b, 1, none⟩ = some (.int .i64 q)) (h2 : w.cell? ⟨b, 2, none⟩ = some (.int .i64 r)) (h3 : w.cell? ⟨b, 3, none⟩ = some (.int .i64 s)) :
    Calls Tryz.prog 59 #[.slice (some ⟨b, 0, none⟩) 4 c] w fun e w' => e = .returned (.int .i64 (orI [p, q, r, s])) ∧ w = w' :=
  cmp_Or b 0 c [p, q, r, s] w (by simp) (fun i hi => by
    match i, hi with
    | 0, _ => exact h0
    | 1, _ => exact h1
    | 2, _ => exact h2
    | 3, _ => exact h3
    | n + 4, hi => simp at hi; omega)

set_option maxHeartbeats 800000 in
theorem val_compare (x y : Nd) (w : World) :
    Calls Tryz.prog 52 #[.agg #[.int .i64 x.op, .int .i64 x.n, .string x.s, .string x.t], .agg #[.int .i64 y.op, .int .i64 y.n, .string y.s, .string y.t]] w fun e w' => e = .returned (.int .i64 (ndCmp x y)) ∧ Below w.heap.size w w' := by
  go_enter Tryz.func52, Tryz.ntmps52
  go_wp2_with fail
  go_region_held3 (fun w' => w'.cell? ⟨w.heap.size, 0, none⟩ = some (.int .i64 x.op) ∧ w'.cell? ⟨w.heap.size, 1, none⟩ = some (.int .i64 x.n) ∧ w'.cell? ⟨w.heap.size, 2, none⟩ = some (.string x.s) ∧ w'.cell? ⟨w.heap.size, 3, none⟩ = some (.string x.t) ∧ w'.cell? ⟨w.heap.size + 1, 0, none⟩ = some (.int .i64 y.op) ∧ w'.cell? ⟨w.heap.size + 1, 1, none⟩ = some (.int .i64 y.n) ∧ w'.cell? ⟨w.heap.size + 1, 2, none⟩ = some (.string y.s) ∧ w'.cell? ⟨w.heap.size + 1, 3, none⟩ = some (.string y.t)) (simp [go_sem, World.cell?_alloc_past])
    (first
      | (go_at_call 60; refine (cmp_Compare _ _ _).mono ?_; rintro e w' ⟨rfl, rfl⟩)
      | (go_at_call 61; refine (Tryz.strings_Compare _ _ _).mono ?_; rintro e w' ⟨rfl, rfl⟩)
      | (go_at_call 59; refine (cmp_Or4 _ _ (cmpI x.op y.op) (cmpI x.n y.n) (Lib.compareBytes x.s.data.toList y.s.data.toList) (Lib.compareBytes x.t.data.toList y.t.data.toList) _ (by simp [go_sem]) (by simp [go_sem]) (by simp [go_sem]) (by simp [go_sem])).mono ?_; rintro e w' ⟨rfl, rfl⟩))
  all_goals go_wp2
  all_goals go_ret
  all_goals exact ⟨rfl, by (repeat (first | assumption | exact Below.refl _ _ | apply Below.drew | apply below_drewN | (refine Below.alloc ?_ (by first | exact Nat.le_refl _ | omega | (simp; done) | (simp; omega)) _)))⟩
end Go.Proofs.YtbommoefpekalaaGreat
