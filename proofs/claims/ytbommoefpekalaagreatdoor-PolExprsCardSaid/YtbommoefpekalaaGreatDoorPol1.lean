/-
  THE WALKS: pol.scope.
-/
import Derived.Test.YtbommoefpekalaaGreatDoorWrite1
namespace Go.Proofs.YtbommoefpekalaaGreatDoor
open Go.RowKit

def Sc.cells (s : Sc) : List Value := [.int .i64 s.op, .string s.ty, .string s.uid.ty, .string s.uid.id]
def ScZ (s : Sc) : Prop := s.ty.size ≤ 140737488351232 ∧ UdOk s.uid
def scV (s : Sc) (b : Bool) : Int := if scOk s b = true then 0 else 1
def PolScope (s : Sc) (b : Bool) : Prop := ∀ w : World, Calls Tryz.prog 47 #[.agg #[.int .i64 s.op, .string s.ty, .string s.uid.ty, .string s.uid.id], .bool b] w fun e w' => e = .returned (errV (scV s b)) ∧ Below w.heap.size w w'
set_option maxRecDepth 100000 in
set_option maxHeartbeats 1600000 in
theorem pol_scope0 (s : Sc) (b : Bool) (h0 : s.op = 0) : PolScope s b := by
  intro w
  rw [h0]
  go_enter Tryz.func47, Tryz.ntmps47
  go_wp2_with fail
  all_goals (go_ret; refine ⟨?_, by (repeat (first | assumption | exact Below.refl _ _ | apply Below.drew | apply below_drewN | (refine Below.alloc ?_ (by first | exact Nat.le_refl _ | omega | (simp; done) | (simp; omega)) _)))⟩; simp_all [scV, scOk, udNone, emp, errV])
set_option maxRecDepth 100000 in
set_option maxHeartbeats 1600000 in
theorem pol_scope5 (s : Sc) (b : Bool) (h0 : s.op = 5 ∨ s.op = 6) : PolScope s b := by
  intro w
  cases b with
  | true =>
    rcases h0 with h0 | h0
    · rw [h0]
      go_enter Tryz.func47, Tryz.ntmps47
      go_wp2_with fail
      all_goals (go_ret; refine ⟨?_, by (repeat (first | assumption | exact Below.refl _ _ | apply Below.drew | apply below_drewN | (refine Below.alloc ?_ (by first | exact Nat.le_refl _ | omega | (simp; done) | (simp; omega)) _)))⟩; simp_all [scV, scOk, udNone, emp, errV])
    · rw [h0]
      go_enter Tryz.func47, Tryz.ntmps47
      go_wp2_with fail
      all_goals (go_ret; refine ⟨?_, by (repeat (first | assumption | exact Below.refl _ _ | apply Below.drew | apply below_drewN | (refine Below.alloc ?_ (by first | exact Nat.le_refl _ | omega | (simp; done) | (simp; omega)) _)))⟩; simp_all [scV, scOk, udNone, emp, errV])
  | false =>
    rcases h0 with h0 | h0
    · rw [h0]
      go_enter Tryz.func47, Tryz.ntmps47
      go_wp2_with fail
      all_goals (go_ret; refine ⟨?_, by (repeat (first | assumption | exact Below.refl _ _ | apply Below.drew | apply below_drewN | (refine Below.alloc ?_ (by first | exact Nat.le_refl _ | omega | (simp; done) | (simp; omega)) _)))⟩; simp_all [scV, scOk, udNone, emp, errV])
    · rw [h0]
      go_enter Tryz.func47, Tryz.ntmps47
      go_wp2_with fail
      all_goals (go_ret; refine ⟨?_, by (repeat (first | assumption | exact Below.refl _ _ | apply Below.drew | apply below_drewN | (refine Below.alloc ?_ (by first | exact Nat.le_refl _ | omega | (simp; done) | (simp; omega)) _)))⟩; simp_all [scV, scOk, udNone, emp, errV])
theorem two_below (w : World) (O P : Obj) : Below w.heap.size w ((w.alloc O).alloc P) := by (repeat (first | assumption | exact Below.refl _ _ | apply Below.drew | apply below_drewN | (refine Below.alloc ?_ (by first | exact Nat.le_refl _ | omega | (simp; done) | (simp; omega)) _)))
set_option maxRecDepth 100000 in
set_option maxHeartbeats 6400000 in
theorem pol_scope1 (s : Sc) (b : Bool) (h0 : s.op = 1 ∨ s.op = 2) (hz : ScZ s) : PolScope s b := by
  intro w
  have HW := Lib.hid (fun W => name_Write s.uid W hz.2)
  clear hz
  by_cases he : udErr s.uid = 0
  · have hne : (udErr s.uid != 0) = false := by simp [he]
    rcases h0 with h0 | h0
    · rw [h0]
      go_enter Tryz.func47, Tryz.ntmps47
      go_wp2_with fail
      · refine (HW.out _).mono ?_
        rintro e w1 ⟨rfl, hb1⟩
        have hb := (two_below w _ _).trans (hb1.mono (by simp; omega))
        clear hb1
        go_wp2_with fail
        go_ret
        refine ⟨?_, hb⟩
        simp_all [scV, scOk, emp, errV, udOk]
      all_goals (go_ret; refine ⟨?_, by (repeat (first | assumption | exact Below.refl _ _ | apply Below.drew | apply below_drewN | (refine Below.alloc ?_ (by first | exact Nat.le_refl _ | omega | (simp; done) | (simp; omega)) _)))⟩; simp_all [scV, scOk, emp, errV, udOk])
    · rw [h0]
      go_enter Tryz.func47, Tryz.ntmps47
      go_wp2_with fail
      · refine (HW.out _).mono ?_
        rintro e w1 ⟨rfl, hb1⟩
        have hb := (two_below w _ _).trans (hb1.mono (by simp; omega))
        clear hb1
        go_wp2_with fail
        go_ret
        refine ⟨?_, hb⟩
        simp_all [scV, scOk, emp, errV, udOk]
      all_goals (go_ret; refine ⟨?_, by (repeat (first | assumption | exact Below.refl _ _ | apply Below.drew | apply below_drewN | (refine Below.alloc ?_ (by first | exact Nat.le_refl _ | omega | (simp; done) | (simp; omega)) _)))⟩; simp_all [scV, scOk, emp, errV, udOk])
  · have hne : (udErr s.uid != 0) = true := by simp [he]
    rcases h0 with h0 | h0
    · rw [h0]
      go_enter Tryz.func47, Tryz.ntmps47
      go_wp2_with fail
      · refine (HW.out _).mono ?_
        rintro e w1 ⟨rfl, hb1⟩
        have hb := (two_below w _ _).trans (hb1.mono (by simp; omega))
        clear hb1
        go_wp2_with fail
        go_ret
        refine ⟨?_, hb⟩
        simp_all [scV, scOk, emp, errV, udOk]
      all_goals (go_ret; refine ⟨?_, by (repeat (first | assumption | exact Below.refl _ _ | apply Below.drew | apply below_drewN | (refine Below.alloc ?_ (by first | exact Nat.le_refl _ | omega | (simp; done) | (simp; omega)) _)))⟩; simp_all [scV, scOk, emp, errV, udOk])
    · rw [h0]
      go_enter Tryz.func47, Tryz.ntmps47
      go_wp2_with fail
      · refine (HW.out _).mono ?_
        rintro e w1 ⟨rfl, hb1⟩
        have hb := (two_below w _ _).trans (hb1.mono (by simp; omega))
        clear hb1
        go_wp2_with fail
        go_ret
        refine ⟨?_, hb⟩
        simp_all [scV, scOk, emp, errV, udOk]
      all_goals (go_ret; refine ⟨?_, by (repeat (first | assumption | exact Below.refl _ _ | apply Below.drew | apply below_drewN | (refine Below.alloc ?_ (by first | exact Nat.le_refl _ | omega | (simp; done) | (simp; omega)) _)))⟩; simp_all [scV, scOk, emp, errV, udOk])
set_option maxRecDepth 100000 in
set_option maxHeartbeats 6400000 in
theorem pol_scope3 (s : Sc) (b : Bool) (h0 : s.op = 3) (hz : ScZ s) : PolScope s b := by
  intro w
  have HW := Lib.hid (fun W => name_Check s.ty W hz.1)
  clear hz
  by_cases he : nameErr s.ty.toList = 0
  · have hne : (nameErr s.ty.toList != 0) = false := by simp [he]
    · rw [h0]
      go_enter Tryz.func47, Tryz.ntmps47
      go_wp2_with fail
      · refine (HW.out _).mono ?_
        rintro e w1 ⟨rfl, hb1⟩
        have hb := (two_below w _ _).trans (hb1.mono (by simp; omega))
        obtain ⟨hcc, hff⟩ := bcell hb1
        have hlt1 : w.heap.size + 1 < w1.heap.size := by have := hb1.size; simp at this; omega
        have hlt0 : w.heap.size < w1.heap.size := by omega
        clear hb1
        go_wp2_with fail
        go_ret
        refine ⟨?_, hb⟩
        simp_all [scV, scOk, udNone, emp, errV]
      all_goals (go_ret; refine ⟨?_, by (repeat (first | assumption | exact Below.refl _ _ | apply Below.drew | apply below_drewN | (refine Below.alloc ?_ (by first | exact Nat.le_refl _ | omega | (simp; done) | (simp; omega)) _)))⟩; simp_all [scV, scOk, udNone, emp, errV])
  · have hne : (nameErr s.ty.toList != 0) = true := by simp [he]
    · rw [h0]
      go_enter Tryz.func47, Tryz.ntmps47
      go_wp2_with fail
      · refine (HW.out _).mono ?_
        rintro e w1 ⟨rfl, hb1⟩
        have hb := (two_below w _ _).trans (hb1.mono (by simp; omega))
        obtain ⟨hcc, hff⟩ := bcell hb1
        have hlt1 : w.heap.size + 1 < w1.heap.size := by have := hb1.size; simp at this; omega
        have hlt0 : w.heap.size < w1.heap.size := by omega
        clear hb1
        go_wp2_with fail
        go_ret
        refine ⟨?_, hb⟩
        simp_all [scV, scOk, udNone, emp, errV]
      all_goals (go_ret; refine ⟨?_, by (repeat (first | assumption | exact Below.refl _ _ | apply Below.drew | apply below_drewN | (refine Below.alloc ?_ (by first | exact Nat.le_refl _ | omega | (simp; done) | (simp; omega)) _)))⟩; simp_all [scV, scOk, udNone, emp, errV])
set_option maxRecDepth 100000 in
set_option maxHeartbeats 6400000 in
theorem pol_scope4 (s : Sc) (b : Bool) (h0 : s.op = 4) (hz : ScZ s) : PolScope s b := by
  intro w
  have HW := Lib.hid (fun W => name_Check s.ty W hz.1)
  have HU := Lib.hid (fun W => name_Write s.uid W hz.2)
  clear hz
  by_cases he : nameErr s.ty.toList = 0
  · have hne : (nameErr s.ty.toList != 0) = false := by simp [he]
    rw [h0]
    go_enter Tryz.func47, Tryz.ntmps47
    go_wp2_with fail
    refine (HW.out _).mono ?_
    rintro e w1 ⟨rfl, hb1⟩
    have hb := (two_below w _ _).trans (hb1.mono (by simp; omega))
    obtain ⟨hcc, hff⟩ := bcell hb1
    have hlt1 : w.heap.size + 1 < w1.heap.size := by have := hb1.size; simp at this; omega
    have hlt0 : w.heap.size < w1.heap.size := by omega
    clear hb1
    go_wp2_with fail
    refine (HU.out _).mono ?_
    rintro e w2 ⟨rfl, hb2⟩
    have hb' := hb.trans (hb2.mono (by omega))
    clear hb2
    by_cases hu : udErr s.uid = 0
    · have hun : (udErr s.uid != 0) = false := by simp [hu]
      go_wp2_with fail
      go_ret
      refine ⟨?_, hb'⟩
      simp_all [scV, scOk, errV, udOk]
    · have hun : (udErr s.uid != 0) = true := by simp [hu]
      go_wp2_with fail
      go_ret
      refine ⟨?_, hb'⟩
      simp_all [scV, scOk, errV, udOk]
  · have hne : (nameErr s.ty.toList != 0) = true := by simp [he]
    · rw [h0]
      go_enter Tryz.func47, Tryz.ntmps47
      go_wp2_with fail
      · refine (HW.out _).mono ?_
        rintro e w1 ⟨rfl, hb1⟩
        have hb := (two_below w _ _).trans (hb1.mono (by simp; omega))
        clear hb1
        go_wp2_with fail
        go_ret
        refine ⟨?_, hb⟩
        simp_all [scV, scOk, errV, udOk]
      all_goals (go_ret; refine ⟨?_, by (repeat (first | assumption | exact Below.refl _ _ | apply Below.drew | apply below_drewN | (refine Below.alloc ?_ (by first | exact Nat.le_refl _ | omega | (simp; done) | (simp; omega)) _)))⟩; simp_all [scV, scOk, udNone, emp, errV, udOk])
set_option maxRecDepth 100000 in
set_option maxHeartbeats 1600000 in
theorem pol_scope9 (s : Sc) (b : Bool) (h0 : ¬ s.op = 0) (h1 : ¬ s.op = 1) (h2 : ¬ s.op = 2) (h3 : ¬ s.op = 3) (h4 : ¬ s.op = 4) (h5 : ¬ s.op = 5) (h6 : ¬ s.op = 6) : PolScope s b := by
  intro w
  have hv : scV s b = 1 := by simp [scV, scOk, h0, h1, h2, h3, h4, h5, h6]
  have t0 : (s.op == 0) = false := by simp [h0]
  have t1 : (s.op == 1) = false := by simp [h1]
  have t2 : (s.op == 2) = false := by simp [h2]
  have t3 : (s.op == 3) = false := by simp [h3]
  have t4 : (s.op == 4) = false := by simp [h4]
  have t5 : (s.op == 5) = false := by simp [h5]
  have t6 : (s.op == 6) = false := by simp [h6]
  clear h0 h1 h2 h3 h4 h5 h6
  rw [hv]
  clear hv
  go_enter Tryz.func47, Tryz.ntmps47
  go_wp2_with fail
  go_ret
  exact ⟨rfl, by (repeat (first | assumption | exact Below.refl _ _ | apply Below.drew | apply below_drewN | (refine Below.alloc ?_ (by first | exact Nat.le_refl _ | omega | (simp; done) | (simp; omega)) _)))⟩
theorem pol_scope (s : Sc) (b : Bool) (hz : ScZ s) : PolScope s b := by
  by_cases h0 : s.op = 0
  · exact pol_scope0 s b h0
  by_cases h1 : s.op = 1 ∨ s.op = 2
  · exact pol_scope1 s b h1 hz
  by_cases h3 : s.op = 3
  · exact pol_scope3 s b h3 hz
  by_cases h4 : s.op = 4
  · exact pol_scope4 s b h4 hz
  by_cases h5 : s.op = 5 ∨ s.op = 6
  · exact pol_scope5 s b h5
  exact pol_scope9 s b h0 (fun h => h1 (.inl h)) (fun h => h1 (.inr h)) h3 h4 (fun h => h5 (.inl h)) (fun h => h5 (.inr h))
end Go.Proofs.YtbommoefpekalaaGreatDoor
