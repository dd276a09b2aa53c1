/-
  THE WALK of the law MoveApart.
-/
import Derived.Test.YtnhcjpmamgdeoaaMvR
namespace Go.Proofs.Ytnhcjpmamgdeoaa
open Go.RowKit

set_option maxRecDepth 100000 in
set_option maxHeartbeats 4000000 in
theorem law_apart_skip (m n : Mv) (e : List Nd) (A : Option Addr) (c : Nat) (f1 f2 : Bool) (k1 k2 : Int) (h : ¬ (k1 = 0 ∧ k2 = 0 ∧ f1 = true ∧ f2 = true)) (w : World)
    (HF1 : Hid (∀ W, Below w.heap.size w W → Calls Try.prog 19 #[.agg #[.int .i64 m.what, .string m.fr, .string m.to_], .slice A e.length c] W fun r w' => r = .returned (.tuple #[.bool f1, errV k1]) ∧ Below W.heap.size W w'))
    (HF2 : Hid (∀ W, Below w.heap.size w W → Calls Try.prog 19 #[.agg #[.int .i64 n.what, .string n.fr, .string n.to_], .slice A e.length c] W fun r w' => r = .returned (.tuple #[.bool f2, errV k2]) ∧ Below W.heap.size W w')) :
    Calls Try.prog 6 #[.agg #[.int .i64 m.what, .string m.fr, .string m.to_], .agg #[.int .i64 n.what, .string n.fr, .string n.to_], .slice A e.length c] w fun r w' => r = .returned (.bool true) ∧ Below w.heap.size w w' := by
  by_cases h1 : k1 = 0
  · have t1 : (k1 != 0) = false := by simp [h1]
    by_cases h2 : k2 = 0
    · have t2 : (k2 != 0) = false := by simp [h2]
      cases f1 with
      | false =>
        clear h h1 h2
        go_enter Try.func6, Try.ntmps6
        go_wp2_with fail
        obtain ⟨w0, hw0e⟩ : ∃ w0, (w.alloc (.cells #[.int .i64 m.what, .string m.fr, .string m.to_] 51)).alloc (.cells #[.int .i64 n.what, .string n.fr, .string n.to_] 51) = w0 := ⟨_, rfl⟩
        have hw0 : Below w.heap.size w w0 := by rw [← hw0e]; (repeat (first | assumption | exact Below.refl _ _ | apply Below.drew | apply below_drewN | (refine Below.alloc ?_ (by first | exact Nat.le_refl _ | omega | (simp; done) | (simp; omega)) _)))
        have HM0 : Hid (MCap m w.heap.size w0) := by rw [← hw0e]; exact (MCap.new m w).later (by (repeat (first | assumption | exact Below.refl _ _ | apply Below.drew | apply below_drewN | (refine Below.alloc ?_ (by first | exact Nat.le_refl _ | omega | (simp; done) | (simp; omega)) _))))
        have HN0 : Hid (MCap n (w.heap.size + 1) w0) := by rw [← hw0e]; have := MCap.new n (w.alloc (.cells #[.int .i64 m.what, .string m.fr, .string m.to_] 51)); rwa [World.size_alloc] at this
        rw [hw0e]
        clear hw0e
        have a0 := HM0.out.c0
        have a1 := HM0.out.c1
        have a2 := HM0.out.c2
        have b0 := HN0.out.c0
        have b1 := HN0.out.c1
        have b2 := HN0.out.c2
        refine (law_renamed w0).mono ?_
        rintro r w1 ⟨rfl, hb⟩
        have hw1 : Below w.heap.size w w1 := hw0.trans (hb.mono hw0.size)
        have HM1 := Lib.hid (HM0.out.later hb)
        have HN1 := Lib.hid (HN0.out.later hb)
        clear hb a0 a1 a2 b0 b1 b2
        have a0 := HM1.out.c0
        have a1 := HM1.out.c1
        have a2 := HM1.out.c2
        have b0 := HN1.out.c0
        have b1 := HN1.out.c1
        have b2 := HN1.out.c2
        go_wp2_with fail
        refine (HF1.out _ hw1).mono ?_
        rintro r w2 ⟨rfl, hb⟩
        have hw2 : Below w.heap.size w w2 := hw1.trans (hb.mono hw1.size)
        have HM2 := Lib.hid (HM1.out.later hb)
        have HN2 := Lib.hid (HN1.out.later hb)
        clear hb a0 a1 a2 b0 b1 b2
        have a0 := HM2.out.c0
        have a1 := HM2.out.c1
        have a2 := HM2.out.c2
        have b0 := HN2.out.c0
        have b1 := HN2.out.c1
        have b2 := HN2.out.c2
        go_wp2_with fail
        refine (HF2.out _ hw2).mono ?_
        rintro r w3 ⟨rfl, hb⟩
        have hw3 : Below w.heap.size w w3 := hw2.trans (hb.mono hw2.size)
        have HM3 := Lib.hid (HM2.out.later hb)
        have HN3 := Lib.hid (HN2.out.later hb)
        clear hb a0 a1 a2 b0 b1 b2
        have a0 := HM3.out.c0
        have a1 := HM3.out.c1
        have a2 := HM3.out.c2
        have b0 := HN3.out.c0
        have b1 := HN3.out.c1
        have b2 := HN3.out.c2
        go_wp2_with fail
        go_ret
        exact ⟨rfl, hw3⟩
      | true =>
        cases f2 with
        | true => exact absurd ⟨h1, h2, rfl, rfl⟩ h
        | false =>
          clear h h1 h2
          go_enter Try.func6, Try.ntmps6
          go_wp2_with fail
          obtain ⟨w0, hw0e⟩ : ∃ w0, (w.alloc (.cells #[.int .i64 m.what, .string m.fr, .string m.to_] 51)).alloc (.cells #[.int .i64 n.what, .string n.fr, .string n.to_] 51) = w0 := ⟨_, rfl⟩
          have hw0 : Below w.heap.size w w0 := by rw [← hw0e]; (repeat (first | assumption | exact Below.refl _ _ | apply Below.drew | apply below_drewN | (refine Below.alloc ?_ (by first | exact Nat.le_refl _ | omega | (simp; done) | (simp; omega)) _)))
          have HM0 : Hid (MCap m w.heap.size w0) := by rw [← hw0e]; exact (MCap.new m w).later (by (repeat (first | assumption | exact Below.refl _ _ | apply Below.drew | apply below_drewN | (refine Below.alloc ?_ (by first | exact Nat.le_refl _ | omega | (simp; done) | (simp; omega)) _))))
          have HN0 : Hid (MCap n (w.heap.size + 1) w0) := by rw [← hw0e]; have := MCap.new n (w.alloc (.cells #[.int .i64 m.what, .string m.fr, .string m.to_] 51)); rwa [World.size_alloc] at this
          rw [hw0e]
          clear hw0e
          have a0 := HM0.out.c0
          have a1 := HM0.out.c1
          have a2 := HM0.out.c2
          have b0 := HN0.out.c0
          have b1 := HN0.out.c1
          have b2 := HN0.out.c2
          refine (law_renamed w0).mono ?_
          rintro r w1 ⟨rfl, hb⟩
          have hw1 : Below w.heap.size w w1 := hw0.trans (hb.mono hw0.size)
          have HM1 := Lib.hid (HM0.out.later hb)
          have HN1 := Lib.hid (HN0.out.later hb)
          clear hb a0 a1 a2 b0 b1 b2
          have a0 := HM1.out.c0
          have a1 := HM1.out.c1
          have a2 := HM1.out.c2
          have b0 := HN1.out.c0
          have b1 := HN1.out.c1
          have b2 := HN1.out.c2
          go_wp2_with fail
          refine (HF1.out _ hw1).mono ?_
          rintro r w2 ⟨rfl, hb⟩
          have hw2 : Below w.heap.size w w2 := hw1.trans (hb.mono hw1.size)
          have HM2 := Lib.hid (HM1.out.later hb)
          have HN2 := Lib.hid (HN1.out.later hb)
          clear hb a0 a1 a2 b0 b1 b2
          have a0 := HM2.out.c0
          have a1 := HM2.out.c1
          have a2 := HM2.out.c2
          have b0 := HN2.out.c0
          have b1 := HN2.out.c1
          have b2 := HN2.out.c2
          go_wp2_with fail
          refine (HF2.out _ hw2).mono ?_
          rintro r w3 ⟨rfl, hb⟩
          have hw3 : Below w.heap.size w w3 := hw2.trans (hb.mono hw2.size)
          have HM3 := Lib.hid (HM2.out.later hb)
          have HN3 := Lib.hid (HN2.out.later hb)
          clear hb a0 a1 a2 b0 b1 b2
          have a0 := HM3.out.c0
          have a1 := HM3.out.c1
          have a2 := HM3.out.c2
          have b0 := HN3.out.c0
          have b1 := HN3.out.c1
          have b2 := HN3.out.c2
          go_wp2_with fail
          go_ret
          exact ⟨rfl, hw3⟩
    · have t2 : (k2 != 0) = true := by simp [h2]
      clear h h1 h2
      go_enter Try.func6, Try.ntmps6
      go_wp2_with fail
      obtain ⟨w0, hw0e⟩ : ∃ w0, (w.alloc (.cells #[.int .i64 m.what, .string m.fr, .string m.to_] 51)).alloc (.cells #[.int .i64 n.what, .string n.fr, .string n.to_] 51) = w0 := ⟨_, rfl⟩
      have hw0 : Below w.heap.size w w0 := by rw [← hw0e]; (repeat (first | assumption | exact Below.refl _ _ | apply Below.drew | apply below_drewN | (refine Below.alloc ?_ (by first | exact Nat.le_refl _ | omega | (simp; done) | (simp; omega)) _)))
      have HM0 : Hid (MCap m w.heap.size w0) := by rw [← hw0e]; exact (MCap.new m w).later (by (repeat (first | assumption | exact Below.refl _ _ | apply Below.drew | apply below_drewN | (refine Below.alloc ?_ (by first | exact Nat.le_refl _ | omega | (simp; done) | (simp; omega)) _))))
      have HN0 : Hid (MCap n (w.heap.size + 1) w0) := by rw [← hw0e]; have := MCap.new n (w.alloc (.cells #[.int .i64 m.what, .string m.fr, .string m.to_] 51)); rwa [World.size_alloc] at this
      rw [hw0e]
      clear hw0e
      have a0 := HM0.out.c0
      have a1 := HM0.out.c1
      have a2 := HM0.out.c2
      have b0 := HN0.out.c0
      have b1 := HN0.out.c1
      have b2 := HN0.out.c2
      refine (law_renamed w0).mono ?_
      rintro r w1 ⟨rfl, hb⟩
      have hw1 : Below w.heap.size w w1 := hw0.trans (hb.mono hw0.size)
      have HM1 := Lib.hid (HM0.out.later hb)
      have HN1 := Lib.hid (HN0.out.later hb)
      clear hb a0 a1 a2 b0 b1 b2
      have a0 := HM1.out.c0
      have a1 := HM1.out.c1
      have a2 := HM1.out.c2
      have b0 := HN1.out.c0
      have b1 := HN1.out.c1
      have b2 := HN1.out.c2
      go_wp2_with fail
      refine (HF1.out _ hw1).mono ?_
      rintro r w2 ⟨rfl, hb⟩
      have hw2 : Below w.heap.size w w2 := hw1.trans (hb.mono hw1.size)
      have HM2 := Lib.hid (HM1.out.later hb)
      have HN2 := Lib.hid (HN1.out.later hb)
      clear hb a0 a1 a2 b0 b1 b2
      have a0 := HM2.out.c0
      have a1 := HM2.out.c1
      have a2 := HM2.out.c2
      have b0 := HN2.out.c0
      have b1 := HN2.out.c1
      have b2 := HN2.out.c2
      go_wp2_with fail
      refine (HF2.out _ hw2).mono ?_
      rintro r w3 ⟨rfl, hb⟩
      have hw3 : Below w.heap.size w w3 := hw2.trans (hb.mono hw2.size)
      have HM3 := Lib.hid (HM2.out.later hb)
      have HN3 := Lib.hid (HN2.out.later hb)
      clear hb a0 a1 a2 b0 b1 b2
      have a0 := HM3.out.c0
      have a1 := HM3.out.c1
      have a2 := HM3.out.c2
      have b0 := HN3.out.c0
      have b1 := HN3.out.c1
      have b2 := HN3.out.c2
      go_wp2_with fail
      go_ret
      exact ⟨rfl, hw3⟩
  · have t1 : (k1 != 0) = true := by simp [h1]
    clear h h1
    go_enter Try.func6, Try.ntmps6
    go_wp2_with fail
    obtain ⟨w0, hw0e⟩ : ∃ w0, (w.alloc (.cells #[.int .i64 m.what, .string m.fr, .string m.to_] 51)).alloc (.cells #[.int .i64 n.what, .string n.fr, .string n.to_] 51) = w0 := ⟨_, rfl⟩
    have hw0 : Below w.heap.size w w0 := by rw [← hw0e]; (repeat (first | assumption | exact Below.refl _ _ | apply Below.drew | apply below_drewN | (refine Below.alloc ?_ (by first | exact Nat.le_refl _ | omega | (simp; done) | (simp; omega)) _)))
    have HM0 : Hid (MCap m w.heap.size w0) := by rw [← hw0e]; exact (MCap.new m w).later (by (repeat (first | assumption | exact Below.refl _ _ | apply Below.drew | apply below_drewN | (refine Below.alloc ?_ (by first | exact Nat.le_refl _ | omega | (simp; done) | (simp; omega)) _))))
    have HN0 : Hid (MCap n (w.heap.size + 1) w0) := by rw [← hw0e]; have := MCap.new n (w.alloc (.cells #[.int .i64 m.what, .string m.fr, .string m.to_] 51)); rwa [World.size_alloc] at this
    rw [hw0e]
    clear hw0e
    have a0 := HM0.out.c0
    have a1 := HM0.out.c1
    have a2 := HM0.out.c2
    have b0 := HN0.out.c0
    have b1 := HN0.out.c1
    have b2 := HN0.out.c2
    refine (law_renamed w0).mono ?_
    rintro r w1 ⟨rfl, hb⟩
    have hw1 : Below w.heap.size w w1 := hw0.trans (hb.mono hw0.size)
    have HM1 := Lib.hid (HM0.out.later hb)
    have HN1 := Lib.hid (HN0.out.later hb)
    clear hb a0 a1 a2 b0 b1 b2
    have a0 := HM1.out.c0
    have a1 := HM1.out.c1
    have a2 := HM1.out.c2
    have b0 := HN1.out.c0
    have b1 := HN1.out.c1
    have b2 := HN1.out.c2
    go_wp2_with fail
    refine (HF1.out _ hw1).mono ?_
    rintro r w2 ⟨rfl, hb⟩
    have hw2 : Below w.heap.size w w2 := hw1.trans (hb.mono hw1.size)
    have HM2 := Lib.hid (HM1.out.later hb)
    have HN2 := Lib.hid (HN1.out.later hb)
    clear hb a0 a1 a2 b0 b1 b2
    have a0 := HM2.out.c0
    have a1 := HM2.out.c1
    have a2 := HM2.out.c2
    have b0 := HN2.out.c0
    have b1 := HN2.out.c1
    have b2 := HN2.out.c2
    go_wp2_with fail
    refine (HF2.out _ hw2).mono ?_
    rintro r w3 ⟨rfl, hb⟩
    have hw3 : Below w.heap.size w w3 := hw2.trans (hb.mono hw2.size)
    have HM3 := Lib.hid (HM2.out.later hb)
    have HN3 := Lib.hid (HN2.out.later hb)
    clear hb a0 a1 a2 b0 b1 b2
    have a0 := HM3.out.c0
    have a1 := HM3.out.c1
    have a2 := HM3.out.c2
    have b0 := HN3.out.c0
    have b1 := HN3.out.c1
    have b2 := HN3.out.c2
    go_wp2_with fail
    go_ret
    exact ⟨rfl, hw3⟩
set_option maxRecDepth 100000 in
set_option maxHeartbeats 8000000 in
theorem law_apart_meet (m n : Mv) (e : List Nd) (A : Option Addr) (c : Nat) (ha : ¬ ApartM m n) (w : World)
    (HF1 : Hid (∀ W, Below w.heap.size w W → Calls Try.prog 19 #[.agg #[.int .i64 m.what, .string m.fr, .string m.to_], .slice A e.length c] W fun r w' => r = .returned (.tuple #[.bool true, errV 0]) ∧ Below W.heap.size W w'))
    (HF2 : Hid (∀ W, Below w.heap.size w W → Calls Try.prog 19 #[.agg #[.int .i64 n.what, .string n.fr, .string n.to_], .slice A e.length c] W fun r w' => r = .returned (.tuple #[.bool true, errV 0]) ∧ Below W.heap.size W w')) :
    Calls Try.prog 6 #[.agg #[.int .i64 m.what, .string m.fr, .string m.to_], .agg #[.int .i64 n.what, .string n.fr, .string n.to_], .slice A e.length c] w fun r w' => r = .returned (.bool true) ∧ Below w.heap.size w w' := by
  have t0 := errV_zero
  rw [t0] at HF1 HF2
  have tw : (m.what == n.what) = true := by
    by_cases h : m.what = n.what
    · simp [h]
    · exact absurd (fun h' => absurd h' h) ha
  by_cases e1 : m.fr.toList = n.fr.toList
  · have q1 : (m.fr.toList == n.fr.toList) = true := by simp [e1]
    clear e1 ha t0
    go_enter Try.func6, Try.ntmps6
    go_wp2_with fail
    obtain ⟨w0, hw0e⟩ : ∃ w0, (w.alloc (.cells #[.int .i64 m.what, .string m.fr, .string m.to_] 51)).alloc (.cells #[.int .i64 n.what, .string n.fr, .string n.to_] 51) = w0 := ⟨_, rfl⟩
    have hw0 : Below w.heap.size w w0 := by rw [← hw0e]; (repeat (first | assumption | exact Below.refl _ _ | apply Below.drew | apply below_drewN | (refine Below.alloc ?_ (by first | exact Nat.le_refl _ | omega | (simp; done) | (simp; omega)) _)))
    have HM0 : Hid (MCap m w.heap.size w0) := by rw [← hw0e]; exact (MCap.new m w).later (by (repeat (first | assumption | exact Below.refl _ _ | apply Below.drew | apply below_drewN | (refine Below.alloc ?_ (by first | exact Nat.le_refl _ | omega | (simp; done) | (simp; omega)) _))))
    have HN0 : Hid (MCap n (w.heap.size + 1) w0) := by rw [← hw0e]; have := MCap.new n (w.alloc (.cells #[.int .i64 m.what, .string m.fr, .string m.to_] 51)); rwa [World.size_alloc] at this
    rw [hw0e]
    clear hw0e
    have a0 := HM0.out.c0
    have a1 := HM0.out.c1
    have a2 := HM0.out.c2
    have b0 := HN0.out.c0
    have b1 := HN0.out.c1
    have b2 := HN0.out.c2
    refine (law_renamed w0).mono ?_
    rintro r w1 ⟨rfl, hb⟩
    have hw1 : Below w.heap.size w w1 := hw0.trans (hb.mono hw0.size)
    have HM1 := Lib.hid (HM0.out.later hb)
    have HN1 := Lib.hid (HN0.out.later hb)
    clear hb a0 a1 a2 b0 b1 b2
    have a0 := HM1.out.c0
    have a1 := HM1.out.c1
    have a2 := HM1.out.c2
    have b0 := HN1.out.c0
    have b1 := HN1.out.c1
    have b2 := HN1.out.c2
    go_wp2_with fail
    refine (HF1.out _ hw1).mono ?_
    rintro r w2 ⟨rfl, hb⟩
    have hw2 : Below w.heap.size w w2 := hw1.trans (hb.mono hw1.size)
    have HM2 := Lib.hid (HM1.out.later hb)
    have HN2 := Lib.hid (HN1.out.later hb)
    clear hb a0 a1 a2 b0 b1 b2
    have a0 := HM2.out.c0
    have a1 := HM2.out.c1
    have a2 := HM2.out.c2
    have b0 := HN2.out.c0
    have b1 := HN2.out.c1
    have b2 := HN2.out.c2
    go_wp2_with fail
    refine (HF2.out _ hw2).mono ?_
    rintro r w3 ⟨rfl, hb⟩
    have hw3 : Below w.heap.size w w3 := hw2.trans (hb.mono hw2.size)
    have HM3 := Lib.hid (HM2.out.later hb)
    have HN3 := Lib.hid (HN2.out.later hb)
    clear hb a0 a1 a2 b0 b1 b2
    have a0 := HM3.out.c0
    have a1 := HM3.out.c1
    have a2 := HM3.out.c2
    have b0 := HN3.out.c0
    have b1 := HN3.out.c1
    have b2 := HN3.out.c2
    go_wp2_with fail
    go_ret
    exact ⟨rfl, hw3⟩
  · have q1 : (m.fr.toList == n.fr.toList) = false := by simp [e1]
    by_cases e2 : m.to_.toList = n.to_.toList
    · have q2 : (m.to_.toList == n.to_.toList) = true := by simp [e2]
      clear e1 e2 ha t0
      go_enter Try.func6, Try.ntmps6
      go_wp2_with fail
      obtain ⟨w0, hw0e⟩ : ∃ w0, (w.alloc (.cells #[.int .i64 m.what, .string m.fr, .string m.to_] 51)).alloc (.cells #[.int .i64 n.what, .string n.fr, .string n.to_] 51) = w0 := ⟨_, rfl⟩
      have hw0 : Below w.heap.size w w0 := by rw [← hw0e]; (repeat (first | assumption | exact Below.refl _ _ | apply Below.drew | apply below_drewN | (refine Below.alloc ?_ (by first | exact Nat.le_refl _ | omega | (simp; done) | (simp; omega)) _)))
      have HM0 : Hid (MCap m w.heap.size w0) := by rw [← hw0e]; exact (MCap.new m w).later (by (repeat (first | assumption | exact Below.refl _ _ | apply Below.drew | apply below_drewN | (refine Below.alloc ?_ (by first | exact Nat.le_refl _ | omega | (simp; done) | (simp; omega)) _))))
      have HN0 : Hid (MCap n (w.heap.size + 1) w0) := by rw [← hw0e]; have := MCap.new n (w.alloc (.cells #[.int .i64 m.what, .string m.fr, .string m.to_] 51)); rwa [World.size_alloc] at this
      rw [hw0e]
      clear hw0e
      have a0 := HM0.out.c0
      have a1 := HM0.out.c1
      have a2 := HM0.out.c2
      have b0 := HN0.out.c0
      have b1 := HN0.out.c1
      have b2 := HN0.out.c2
      refine (law_renamed w0).mono ?_
      rintro r w1 ⟨rfl, hb⟩
      have hw1 : Below w.heap.size w w1 := hw0.trans (hb.mono hw0.size)
      have HM1 := Lib.hid (HM0.out.later hb)
      have HN1 := Lib.hid (HN0.out.later hb)
      clear hb a0 a1 a2 b0 b1 b2
      have a0 := HM1.out.c0
      have a1 := HM1.out.c1
      have a2 := HM1.out.c2
      have b0 := HN1.out.c0
      have b1 := HN1.out.c1
      have b2 := HN1.out.c2
      go_wp2_with fail
      refine (HF1.out _ hw1).mono ?_
      rintro r w2 ⟨rfl, hb⟩
      have hw2 : Below w.heap.size w w2 := hw1.trans (hb.mono hw1.size)
      have HM2 := Lib.hid (HM1.out.later hb)
      have HN2 := Lib.hid (HN1.out.later hb)
      clear hb a0 a1 a2 b0 b1 b2
      have a0 := HM2.out.c0
      have a1 := HM2.out.c1
      have a2 := HM2.out.c2
      have b0 := HN2.out.c0
      have b1 := HN2.out.c1
      have b2 := HN2.out.c2
      go_wp2_with fail
      refine (HF2.out _ hw2).mono ?_
      rintro r w3 ⟨rfl, hb⟩
      have hw3 : Below w.heap.size w w3 := hw2.trans (hb.mono hw2.size)
      have HM3 := Lib.hid (HM2.out.later hb)
      have HN3 := Lib.hid (HN2.out.later hb)
      clear hb a0 a1 a2 b0 b1 b2
      have a0 := HM3.out.c0
      have a1 := HM3.out.c1
      have a2 := HM3.out.c2
      have b0 := HN3.out.c0
      have b1 := HN3.out.c1
      have b2 := HN3.out.c2
      go_wp2_with fail
      go_ret
      exact ⟨rfl, hw3⟩
    · have q2 : (m.to_.toList == n.to_.toList) = false := by simp [e2]
      by_cases e3 : m.fr.toList = n.to_.toList
      · have q3 : (m.fr.toList == n.to_.toList) = true := by simp [e3]
        clear e1 e2 e3 ha t0
        go_enter Try.func6, Try.ntmps6
        go_wp2_with fail
        obtain ⟨w0, hw0e⟩ : ∃ w0, (w.alloc (.cells #[.int .i64 m.what, .string m.fr, .string m.to_] 51)).alloc (.cells #[.int .i64 n.what, .string n.fr, .string n.to_] 51) = w0 := ⟨_, rfl⟩
        have hw0 : Below w.heap.size w w0 := by rw [← hw0e]; (repeat (first | assumption | exact Below.refl _ _ | apply Below.drew | apply below_drewN | (refine Below.alloc ?_ (by first | exact Nat.le_refl _ | omega | (simp; done) | (simp; omega)) _)))
        have HM0 : Hid (MCap m w.heap.size w0) := by rw [← hw0e]; exact (MCap.new m w).later (by (repeat (first | assumption | exact Below.refl _ _ | apply Below.drew | apply below_drewN | (refine Below.alloc ?_ (by first | exact Nat.le_refl _ | omega | (simp; done) | (simp; omega)) _))))
        have HN0 : Hid (MCap n (w.heap.size + 1) w0) := by rw [← hw0e]; have := MCap.new n (w.alloc (.cells #[.int .i64 m.what, .string m.fr, .string m.to_] 51)); rwa [World.size_alloc] at this
        rw [hw0e]
        clear hw0e
        have a0 := HM0.out.c0
        have a1 := HM0.out.c1
        have a2 := HM0.out.c2
        have b0 := HN0.out.c0
        have b1 := HN0.out.c1
        have b2 := HN0.out.c2
        refine (law_renamed w0).mono ?_
        rintro r w1 ⟨rfl, hb⟩
        have hw1 : Below w.heap.size w w1 := hw0.trans (hb.mono hw0.size)
        have HM1 := Lib.hid (HM0.out.later hb)
        have HN1 := Lib.hid (HN0.out.later hb)
        clear hb a0 a1 a2 b0 b1 b2
        have a0 := HM1.out.c0
        have a1 := HM1.out.c1
        have a2 := HM1.out.c2
        have b0 := HN1.out.c0
        have b1 := HN1.out.c1
        have b2 := HN1.out.c2
        go_wp2_with fail
        refine (HF1.out _ hw1).mono ?_
        rintro r w2 ⟨rfl, hb⟩
        have hw2 : Below w.heap.size w w2 := hw1.trans (hb.mono hw1.size)
        have HM2 := Lib.hid (HM1.out.later hb)
        have HN2 := Lib.hid (HN1.out.later hb)
        clear hb a0 a1 a2 b0 b1 b2
        have a0 := HM2.out.c0
        have a1 := HM2.out.c1
        have a2 := HM2.out.c2
        have b0 := HN2.out.c0
        have b1 := HN2.out.c1
        have b2 := HN2.out.c2
        go_wp2_with fail
        refine (HF2.out _ hw2).mono ?_
        rintro r w3 ⟨rfl, hb⟩
        have hw3 : Below w.heap.size w w3 := hw2.trans (hb.mono hw2.size)
        have HM3 := Lib.hid (HM2.out.later hb)
        have HN3 := Lib.hid (HN2.out.later hb)
        clear hb a0 a1 a2 b0 b1 b2
        have a0 := HM3.out.c0
        have a1 := HM3.out.c1
        have a2 := HM3.out.c2
        have b0 := HN3.out.c0
        have b1 := HN3.out.c1
        have b2 := HN3.out.c2
        go_wp2_with fail
        go_ret
        exact ⟨rfl, hw3⟩
      · have q3 : (m.fr.toList == n.to_.toList) = false := by simp [e3]
        have q4 : (m.to_.toList == n.fr.toList) = true := by
          by_cases e4 : m.to_.toList = n.fr.toList
          · simp [e4]
          · exact absurd (fun _ => ⟨e1, e2, e3, e4⟩) ha
        clear e1 e2 e3 ha t0
        go_enter Try.func6, Try.ntmps6
        go_wp2_with fail
        obtain ⟨w0, hw0e⟩ : ∃ w0, (w.alloc (.cells #[.int .i64 m.what, .string m.fr, .string m.to_] 51)).alloc (.cells #[.int .i64 n.what, .string n.fr, .string n.to_] 51) = w0 := ⟨_, rfl⟩
        have hw0 : Below w.heap.size w w0 := by rw [← hw0e]; (repeat (first | assumption | exact Below.refl _ _ | apply Below.drew | apply below_drewN | (refine Below.alloc ?_ (by first | exact Nat.le_refl _ | omega | (simp; done) | (simp; omega)) _)))
        have HM0 : Hid (MCap m w.heap.size w0) := by rw [← hw0e]; exact (MCap.new m w).later (by (repeat (first | assumption | exact Below.refl _ _ | apply Below.drew | apply below_drewN | (refine Below.alloc ?_ (by first | exact Nat.le_refl _ | omega | (simp; done) | (simp; omega)) _))))
        have HN0 : Hid (MCap n (w.heap.size + 1) w0) := by rw [← hw0e]; have := MCap.new n (w.alloc (.cells #[.int .i64 m.what, .string m.fr, .string m.to_] 51)); rwa [World.size_alloc] at this
        rw [hw0e]
        clear hw0e
        have a0 := HM0.out.c0
        have a1 := HM0.out.c1
        have a2 := HM0.out.c2
        have b0 := HN0.out.c0
        have b1 := HN0.out.c1
        have b2 := HN0.out.c2
        refine (law_renamed w0).mono ?_
        rintro r w1 ⟨rfl, hb⟩
        have hw1 : Below w.heap.size w w1 := hw0.trans (hb.mono hw0.size)
        have HM1 := Lib.hid (HM0.out.later hb)
        have HN1 := Lib.hid (HN0.out.later hb)
        clear hb a0 a1 a2 b0 b1 b2
        have a0 := HM1.out.c0
        have a1 := HM1.out.c1
        have a2 := HM1.out.c2
        have b0 := HN1.out.c0
        have b1 := HN1.out.c1
        have b2 := HN1.out.c2
        go_wp2_with fail
        refine (HF1.out _ hw1).mono ?_
        rintro r w2 ⟨rfl, hb⟩
        have hw2 : Below w.heap.size w w2 := hw1.trans (hb.mono hw1.size)
        have HM2 := Lib.hid (HM1.out.later hb)
        have HN2 := Lib.hid (HN1.out.later hb)
        clear hb a0 a1 a2 b0 b1 b2
        have a0 := HM2.out.c0
        have a1 := HM2.out.c1
        have a2 := HM2.out.c2
        have b0 := HN2.out.c0
        have b1 := HN2.out.c1
        have b2 := HN2.out.c2
        go_wp2_with fail
        refine (HF2.out _ hw2).mono ?_
        rintro r w3 ⟨rfl, hb⟩
        have hw3 : Below w.heap.size w w3 := hw2.trans (hb.mono hw2.size)
        have HM3 := Lib.hid (HM2.out.later hb)
        have HN3 := Lib.hid (HN2.out.later hb)
        clear hb a0 a1 a2 b0 b1 b2
        have a0 := HM3.out.c0
        have a1 := HM3.out.c1
        have a2 := HM3.out.c2
        have b0 := HN3.out.c0
        have b1 := HN3.out.c1
        have b2 := HN3.out.c2
        go_wp2_with fail
        go_ret
        exact ⟨rfl, hw3⟩
set_option maxRecDepth 100000 in
set_option maxHeartbeats 8000000 in
theorem law_apart_go (m n : Mv) (e x y z : List Nd) (A : Option Addr) (c : Nat) (ha : ApartM m n) (w : World)
    (HF1 : Hid (∀ W, Below w.heap.size w W → Calls Try.prog 19 #[.agg #[.int .i64 m.what, .string m.fr, .string m.to_], .slice A e.length c] W fun r w' => r = .returned (.tuple #[.bool true, errV 0]) ∧ Below W.heap.size W w'))
    (HF2 : Hid (∀ W, Below w.heap.size w W → Calls Try.prog 19 #[.agg #[.int .i64 n.what, .string n.fr, .string n.to_], .slice A e.length c] W fun r w' => r = .returned (.tuple #[.bool true, errV 0]) ∧ Below W.heap.size W w'))
    (HX1 : Hid (∀ W, Below w.heap.size w W → Calls Try.prog 20 #[.agg #[.int .i64 m.what, .string m.fr, .string m.to_], .slice A e.length c] W fun r w' => NdsBack W r w' x 0))
    (HX2 : Hid (∀ W c' A', x.length ≤ c' → c' ≤ 9223372036854775807 → NdSl W W.heap.size A' x → Calls Try.prog 20 #[.agg #[.int .i64 n.what, .string n.fr, .string n.to_], .slice A' x.length c'] W fun r w' => NdsBack W r w' z 0))
    (HX3 : Hid (∀ W, Below w.heap.size w W → Calls Try.prog 20 #[.agg #[.int .i64 n.what, .string n.fr, .string n.to_], .slice A e.length c] W fun r w' => NdsBack W r w' y 0))
    (HX4 : Hid (∀ W c' A', y.length ≤ c' → c' ≤ 9223372036854775807 → NdSl W W.heap.size A' y → Calls Try.prog 20 #[.agg #[.int .i64 m.what, .string m.fr, .string m.to_], .slice A' y.length c'] W fun r w' => NdsBack W r w' z 0)) :
    Calls Try.prog 6 #[.agg #[.int .i64 m.what, .string m.fr, .string m.to_], .agg #[.int .i64 n.what, .string n.fr, .string n.to_], .slice A e.length c] w fun r w' => r = .returned (.bool true) ∧ Below w.heap.size w w' := by
  have t0 := errV_zero
  rw [t0] at HF1 HF2
  by_cases hw : m.what = n.what
  · have tw : (m.what == n.what) = true := by simp [hw]
    obtain ⟨e1, e2, e3, e4⟩ := ha hw
    have q1 : (m.fr.toList == n.fr.toList) = false := by simp [e1]
    have q2 : (m.to_.toList == n.to_.toList) = false := by simp [e2]
    have q3 : (m.fr.toList == n.to_.toList) = false := by simp [e3]
    have q4 : (m.to_.toList == n.fr.toList) = false := by simp [e4]
    clear e1 e2 e3 e4 hw ha
    go_enter Try.func6, Try.ntmps6
    go_wp2_with fail
    obtain ⟨w0, hw0e⟩ : ∃ w0, (w.alloc (.cells #[.int .i64 m.what, .string m.fr, .string m.to_] 51)).alloc (.cells #[.int .i64 n.what, .string n.fr, .string n.to_] 51) = w0 := ⟨_, rfl⟩
    have hw0 : Below w.heap.size w w0 := by rw [← hw0e]; (repeat (first | assumption | exact Below.refl _ _ | apply Below.drew | apply below_drewN | (refine Below.alloc ?_ (by first | exact Nat.le_refl _ | omega | (simp; done) | (simp; omega)) _)))
    have HM0 : Hid (MCap m w.heap.size w0) := by rw [← hw0e]; exact (MCap.new m w).later (by (repeat (first | assumption | exact Below.refl _ _ | apply Below.drew | apply below_drewN | (refine Below.alloc ?_ (by first | exact Nat.le_refl _ | omega | (simp; done) | (simp; omega)) _))))
    have HN0 : Hid (MCap n (w.heap.size + 1) w0) := by rw [← hw0e]; have := MCap.new n (w.alloc (.cells #[.int .i64 m.what, .string m.fr, .string m.to_] 51)); rwa [World.size_alloc] at this
    rw [hw0e]
    clear hw0e
    have a0 := HM0.out.c0
    have a1 := HM0.out.c1
    have a2 := HM0.out.c2
    have b0 := HN0.out.c0
    have b1 := HN0.out.c1
    have b2 := HN0.out.c2
    refine (law_renamed w0).mono ?_
    rintro r w1 ⟨rfl, hb⟩
    have hw1 : Below w.heap.size w w1 := hw0.trans (hb.mono hw0.size)
    have HM1 := Lib.hid (HM0.out.later hb)
    have HN1 := Lib.hid (HN0.out.later hb)
    clear hb a0 a1 a2 b0 b1 b2
    have a0 := HM1.out.c0
    have a1 := HM1.out.c1
    have a2 := HM1.out.c2
    have b0 := HN1.out.c0
    have b1 := HN1.out.c1
    have b2 := HN1.out.c2
    go_wp2_with fail
    refine (HF1.out _ hw1).mono ?_
    rintro r w2 ⟨rfl, hb⟩
    have hw2 : Below w.heap.size w w2 := hw1.trans (hb.mono hw1.size)
    have HM2 := Lib.hid (HM1.out.later hb)
    have HN2 := Lib.hid (HN1.out.later hb)
    clear hb a0 a1 a2 b0 b1 b2
    have a0 := HM2.out.c0
    have a1 := HM2.out.c1
    have a2 := HM2.out.c2
    have b0 := HN2.out.c0
    have b1 := HN2.out.c1
    have b2 := HN2.out.c2
    go_wp2_with fail
    refine (HF2.out _ hw2).mono ?_
    rintro r w3 ⟨rfl, hb⟩
    have hw3 : Below w.heap.size w w3 := hw2.trans (hb.mono hw2.size)
    have HM3 := Lib.hid (HM2.out.later hb)
    have HN3 := Lib.hid (HN2.out.later hb)
    clear hb a0 a1 a2 b0 b1 b2
    have a0 := HM3.out.c0
    have a1 := HM3.out.c1
    have a2 := HM3.out.c2
    have b0 := HN3.out.c0
    have b1 := HN3.out.c1
    have b2 := HN3.out.c2
    go_wp2_with fail
    refine (HX1.out _ hw3).mono ?_
    rintro r w4 ⟨A4, c4, rfl, hl4, hm4, hs4, hb⟩
    have HS4 := Lib.hid hs4
    have HL4 := Lib.hid hl4
    clear hs4 hl4
    have HB4 := Lib.hid hb
    have hw4 : Below w.heap.size w w4 := hw3.trans (hb.mono hw3.size)
    have HM4 := Lib.hid (HM3.out.later hb)
    have HN4 := Lib.hid (HN3.out.later hb)
    clear hb a0 a1 a2 b0 b1 b2
    have a0 := HM4.out.c0
    have a1 := HM4.out.c1
    have a2 := HM4.out.c2
    have b0 := HN4.out.c0
    have b1 := HN4.out.c1
    have b2 := HN4.out.c2
    go_wp2_with fail
    refine (HX2.out _ c4 A4 HL4.out hm4 HS4.out).mono ?_
    rintro r w5 ⟨A5, c5, rfl, hl5, hm5, hs5, hb⟩
    have HS5 := Lib.hid hs5
    have HL5 := Lib.hid hl5
    clear hs5 hl5
    have HB5 := Lib.hid hb
    have hw5 : Below w.heap.size w w5 := hw4.trans (hb.mono hw4.size)
    have HM5 := Lib.hid (HM4.out.later hb)
    have HN5 := Lib.hid (HN4.out.later hb)
    clear hb a0 a1 a2 b0 b1 b2
    have a0 := HM5.out.c0
    have a1 := HM5.out.c1
    have a2 := HM5.out.c2
    have b0 := HN5.out.c0
    have b1 := HN5.out.c1
    have b2 := HN5.out.c2
    go_wp2_with fail
    refine (HX3.out _ hw5).mono ?_
    rintro r w6 ⟨A6, c6, rfl, hl6, hm6, hs6, hb⟩
    have HS6 := Lib.hid hs6
    have HL6 := Lib.hid hl6
    clear hs6 hl6
    have HB6 := Lib.hid hb
    have hw6 : Below w.heap.size w w6 := hw5.trans (hb.mono hw5.size)
    have HM6 := Lib.hid (HM5.out.later hb)
    have HN6 := Lib.hid (HN5.out.later hb)
    clear hb a0 a1 a2 b0 b1 b2
    have a0 := HM6.out.c0
    have a1 := HM6.out.c1
    have a2 := HM6.out.c2
    have b0 := HN6.out.c0
    have b1 := HN6.out.c1
    have b2 := HN6.out.c2
    go_wp2_with fail
    refine (HX4.out _ c6 A6 HL6.out hm6 HS6.out).mono ?_
    rintro r w7 ⟨A7, c7, rfl, hl7, hm7, hs7, hb⟩
    have HS7 := Lib.hid hs7
    have HL7 := Lib.hid hl7
    clear hs7 hl7
    have HB7 := Lib.hid hb
    have hw7 : Below w.heap.size w w7 := hw6.trans (hb.mono hw6.size)
    have HM7 := Lib.hid (HM6.out.later hb)
    have HN7 := Lib.hid (HN6.out.later hb)
    clear hb a0 a1 a2 b0 b1 b2
    have a0 := HM7.out.c0
    have a1 := HM7.out.c1
    have a2 := HM7.out.c2
    have b0 := HN7.out.c0
    have b1 := HN7.out.c1
    have b2 := HN7.out.c2
    go_wp2_with fail
    refine (same_Nodes z A5 A7 c5 c7 w7 (((HS5.out.below HB6.out).below (HB7.out.mono HB6.out.size)).more (Nat.le_trans HB6.out.size HB7.out.size)) HS7.out (by have := HL5.out; omega)).mono ?_
    rintro r w8 ⟨rfl, hb⟩
    have hw8 : Below w.heap.size w w8 := hw7.trans (hb.mono hw7.size)
    clear hb a0 a1 a2 b0 b1 b2
    go_wp2_with fail
    go_ret
    exact ⟨rfl, hw8⟩
  · have tw : (m.what == n.what) = false := by simp [hw]
    clear hw ha
    go_enter Try.func6, Try.ntmps6
    go_wp2_with fail
    obtain ⟨w0, hw0e⟩ : ∃ w0, (w.alloc (.cells #[.int .i64 m.what, .string m.fr, .string m.to_] 51)).alloc (.cells #[.int .i64 n.what, .string n.fr, .string n.to_] 51) = w0 := ⟨_, rfl⟩
    have hw0 : Below w.heap.size w w0 := by rw [← hw0e]; (repeat (first | assumption | exact Below.refl _ _ | apply Below.drew | apply below_drewN | (refine Below.alloc ?_ (by first | exact Nat.le_refl _ | omega | (simp; done) | (simp; omega)) _)))
    have HM0 : Hid (MCap m w.heap.size w0) := by rw [← hw0e]; exact (MCap.new m w).later (by (repeat (first | assumption | exact Below.refl _ _ | apply Below.drew | apply below_drewN | (refine Below.alloc ?_ (by first | exact Nat.le_refl _ | omega | (simp; done) | (simp; omega)) _))))
    have HN0 : Hid (MCap n (w.heap.size + 1) w0) := by rw [← hw0e]; have := MCap.new n (w.alloc (.cells #[.int .i64 m.what, .string m.fr, .string m.to_] 51)); rwa [World.size_alloc] at this
    rw [hw0e]
    clear hw0e
    have a0 := HM0.out.c0
    have a1 := HM0.out.c1
    have a2 := HM0.out.c2
    have b0 := HN0.out.c0
    have b1 := HN0.out.c1
    have b2 := HN0.out.c2
    refine (law_renamed w0).mono ?_
    rintro r w1 ⟨rfl, hb⟩
    have hw1 : Below w.heap.size w w1 := hw0.trans (hb.mono hw0.size)
    have HM1 := Lib.hid (HM0.out.later hb)
    have HN1 := Lib.hid (HN0.out.later hb)
    clear hb a0 a1 a2 b0 b1 b2
    have a0 := HM1.out.c0
    have a1 := HM1.out.c1
    have a2 := HM1.out.c2
    have b0 := HN1.out.c0
    have b1 := HN1.out.c1
    have b2 := HN1.out.c2
    go_wp2_with fail
    refine (HF1.out _ hw1).mono ?_
    rintro r w2 ⟨rfl, hb⟩
    have hw2 : Below w.heap.size w w2 := hw1.trans (hb.mono hw1.size)
    have HM2 := Lib.hid (HM1.out.later hb)
    have HN2 := Lib.hid (HN1.out.later hb)
    clear hb a0 a1 a2 b0 b1 b2
    have a0 := HM2.out.c0
    have a1 := HM2.out.c1
    have a2 := HM2.out.c2
    have b0 := HN2.out.c0
    have b1 := HN2.out.c1
    have b2 := HN2.out.c2
    go_wp2_with fail
    refine (HF2.out _ hw2).mono ?_
    rintro r w3 ⟨rfl, hb⟩
    have hw3 : Below w.heap.size w w3 := hw2.trans (hb.mono hw2.size)
    have HM3 := Lib.hid (HM2.out.later hb)
    have HN3 := Lib.hid (HN2.out.later hb)
    clear hb a0 a1 a2 b0 b1 b2
    have a0 := HM3.out.c0
    have a1 := HM3.out.c1
    have a2 := HM3.out.c2
    have b0 := HN3.out.c0
    have b1 := HN3.out.c1
    have b2 := HN3.out.c2
    go_wp2_with fail
    refine (HX1.out _ hw3).mono ?_
    rintro r w4 ⟨A4, c4, rfl, hl4, hm4, hs4, hb⟩
    have HS4 := Lib.hid hs4
    have HL4 := Lib.hid hl4
    clear hs4 hl4
    have HB4 := Lib.hid hb
    have hw4 : Below w.heap.size w w4 := hw3.trans (hb.mono hw3.size)
    have HM4 := Lib.hid (HM3.out.later hb)
    have HN4 := Lib.hid (HN3.out.later hb)
    clear hb a0 a1 a2 b0 b1 b2
    have a0 := HM4.out.c0
    have a1 := HM4.out.c1
    have a2 := HM4.out.c2
    have b0 := HN4.out.c0
    have b1 := HN4.out.c1
    have b2 := HN4.out.c2
    go_wp2_with fail
    refine (HX2.out _ c4 A4 HL4.out hm4 HS4.out).mono ?_
    rintro r w5 ⟨A5, c5, rfl, hl5, hm5, hs5, hb⟩
    have HS5 := Lib.hid hs5
    have HL5 := Lib.hid hl5
    clear hs5 hl5
    have HB5 := Lib.hid hb
    have hw5 : Below w.heap.size w w5 := hw4.trans (hb.mono hw4.size)
    have HM5 := Lib.hid (HM4.out.later hb)
    have HN5 := Lib.hid (HN4.out.later hb)
    clear hb a0 a1 a2 b0 b1 b2
    have a0 := HM5.out.c0
    have a1 := HM5.out.c1
    have a2 := HM5.out.c2
    have b0 := HN5.out.c0
    have b1 := HN5.out.c1
    have b2 := HN5.out.c2
    go_wp2_with fail
    refine (HX3.out _ hw5).mono ?_
    rintro r w6 ⟨A6, c6, rfl, hl6, hm6, hs6, hb⟩
    have HS6 := Lib.hid hs6
    have HL6 := Lib.hid hl6
    clear hs6 hl6
    have HB6 := Lib.hid hb
    have hw6 : Below w.heap.size w w6 := hw5.trans (hb.mono hw5.size)
    have HM6 := Lib.hid (HM5.out.later hb)
    have HN6 := Lib.hid (HN5.out.later hb)
    clear hb a0 a1 a2 b0 b1 b2
    have a0 := HM6.out.c0
    have a1 := HM6.out.c1
    have a2 := HM6.out.c2
    have b0 := HN6.out.c0
    have b1 := HN6.out.c1
    have b2 := HN6.out.c2
    go_wp2_with fail
    refine (HX4.out _ c6 A6 HL6.out hm6 HS6.out).mono ?_
    rintro r w7 ⟨A7, c7, rfl, hl7, hm7, hs7, hb⟩
    have HS7 := Lib.hid hs7
    have HL7 := Lib.hid hl7
    clear hs7 hl7
    have HB7 := Lib.hid hb
    have hw7 : Below w.heap.size w w7 := hw6.trans (hb.mono hw6.size)
    have HM7 := Lib.hid (HM6.out.later hb)
    have HN7 := Lib.hid (HN6.out.later hb)
    clear hb a0 a1 a2 b0 b1 b2
    have a0 := HM7.out.c0
    have a1 := HM7.out.c1
    have a2 := HM7.out.c2
    have b0 := HN7.out.c0
    have b1 := HN7.out.c1
    have b2 := HN7.out.c2
    go_wp2_with fail
    refine (same_Nodes z A5 A7 c5 c7 w7 (((HS5.out.below HB6.out).below (HB7.out.mono HB6.out.size)).more (Nat.le_trans HB6.out.size HB7.out.size)) HS7.out (by have := HL5.out; omega)).mono ?_
    rintro r w8 ⟨rfl, hb⟩
    have hw8 : Below w.heap.size w w8 := hw7.trans (hb.mono hw7.size)
    clear hb a0 a1 a2 b0 b1 b2
    go_wp2_with fail
    go_ret
    exact ⟨rfl, hw8⟩
theorem law_apart (m n : Mv) (e : List Nd) (A : Option Addr) (c : Nat) (w : World) (hm : MvZ m) (hn : MvZ n) (hc : e.length ≤ c) (hcm : c ≤ 9223372036854775807) (hok : NdOk e) (hsl : NdSl w w.heap.size A e) :
    Calls Try.prog 6 #[.agg #[.int .i64 m.what, .string m.fr, .string m.to_], .agg #[.int .i64 n.what, .string n.fr, .string n.to_], .slice A e.length c] w fun r w' => r = .returned (.bool true) ∧ Below w.heap.size w w' := by
  have HF1 := Lib.hid (fun W (hW : Below w.heap.size w W) => move_Fresh m e A c W hm hc hcm hok ((hsl.below hW).more hW.size))
  have HF2 := Lib.hid (fun W (hW : Below w.heap.size w W) => move_Fresh n e A c W hn hc hcm hok ((hsl.below hW).more hW.size))
  by_cases h : (freshV m e).2 = 0 ∧ (freshV n e).2 = 0 ∧ (freshV m e).1 = true ∧ (freshV n e).1 = true
  · obtain ⟨h1, h2, h3, h4⟩ := h
    rw [h1, h3] at HF1
    rw [h2, h4] at HF2
    by_cases ha : ApartM m n
    · obtain ⟨m1, m2, m3⟩ := fresh_ok h1 h3
      obtain ⟨n1, _, n3⟩ := fresh_ok h2 h4
      obtain ⟨x, y, z, p1, p2, p3, p4, p5, p6⟩ := apart_plain m1 n1 m2 m3 n3 ha
      have x1 := exprM_ok m1 m2 p1
      have x2 := exprM_ok n1 p2 p5
      have x3 := exprM_ok n1 m2 p3
      have x4 := exprM_ok m1 p4 p6
      refine law_apart_go m n e x y z A c ha w HF1 HF2 (fun W hW => ?_) (fun W c' A' g1 g2 g3 => ?_) (fun W hW => ?_) (fun W c' A' g1 g2 g3 => ?_)
      · have := move_Expr m e A c W hm hc hcm hok ((hsl.below hW).more hW.size)
        rw [x1] at this; exact this
      · have := move_Expr n x A' c' W hn g1 g2 (tree_nok p2) g3
        rw [x2] at this; exact this
      · have := move_Expr n e A c W hn hc hcm hok ((hsl.below hW).more hW.size)
        rw [x3] at this; exact this
      · have := move_Expr m y A' c' W hm g1 g2 (tree_nok p4) g3
        rw [x4] at this; exact this
    · exact law_apart_meet m n e A c ha w HF1 HF2
  · exact law_apart_skip m n e A c _ _ _ _ h w HF1 HF2
end Go.Proofs.Ytnhcjpmamgdeoaa
