/-
  THE WALK of the law MoveBack.
-/
import Derived.Test.YtnhcjpmamgdeoaaMvN
namespace Go.Proofs.Ytnhcjpmamgdeoaa
open Go.RowKit

set_option maxRecDepth 100000 in
set_option maxHeartbeats 6400000 in
theorem mb_k_k (m : Mv) (e v x y : List Nd) (Ae Av : Option Addr) (ce cv : Nat) (k1 k2 kv : Int) (f1 f2 : Bool) (w : World) (HAe : Hid (NdSl w w.heap.size Ae e)) (HAv : Hid (NdSl w w.heap.size Av v))
    (HF1 : Hid (∀ W, Below w.heap.size w W → Calls Try.prog 19 #[.agg #[.int .i64 m.what, .string m.fr, .string m.to_], .slice Ae e.length ce] W fun r w' => r = .returned (.tuple #[.bool f1, errV k1]) ∧ Below W.heap.size W w'))
    (HF2 : Hid (∀ W, Below w.heap.size w W → Calls Try.prog 19 #[.agg #[.int .i64 m.what, .string m.fr, .string m.to_], .slice Av v.length cv] W fun r w' => r = .returned (.tuple #[.bool f2, errV k2]) ∧ Below W.heap.size W w'))
    (h1 : ¬ k1 = 0)
    (h2 : ¬ k2 = 0) :
    Calls Try.prog 7 #[.agg #[.int .i64 m.what, .string m.fr, .string m.to_], .slice Ae e.length ce, .slice Av v.length cv] w fun r w' => r = .returned (.bool true) ∧ Below w.heap.size w w' := by
  have t0 := errV_zero
  have t1 : (k1 == 0) = false := by simp [h1]
  clear h1
  have t2 : (k2 != 0) = true := by simp [h2]
  clear h2
  go_enter Try.func7, Try.ntmps7
  go_wp2_with fail
  obtain ⟨w0, hw0e⟩ : ∃ w0, w.alloc (.cells #[.int .i64 m.what, .string m.fr, .string m.to_] 51) = w0 := ⟨_, rfl⟩
  have hw0 : Below w.heap.size w w0 := by rw [← hw0e]; (repeat (first | assumption | exact Below.refl _ _ | apply Below.drew | apply below_drewN | (refine Below.alloc ?_ (by first | exact Nat.le_refl _ | omega | (simp; done) | (simp; omega)) _)))
  have HM0 : Hid (MCap m w.heap.size w0) := by rw [← hw0e]; exact MCap.new m w
  rw [hw0e]
  clear hw0e
  have a0 := HM0.out.c0
  have a1 := HM0.out.c1
  have a2 := HM0.out.c2
  refine (law_renamed w0).mono ?_
  rintro r w1 ⟨rfl, hb⟩
  have hw1 : Below w.heap.size w w1 := hw0.trans (hb.mono hw0.size)
  have HM1 := Lib.hid (HM0.out.later hb)
  have HB1 := Lib.hid hb
  clear hb a0 a1 a2
  have a0 := HM1.out.c0
  have a1 := HM1.out.c1
  have a2 := HM1.out.c2
  go_wp2_with fail
  refine (HF1.out _ hw1).mono ?_
  rintro r w2 ⟨rfl, hb⟩
  have hw2 : Below w.heap.size w w2 := hw1.trans (hb.mono hw1.size)
  have HM2 := Lib.hid (HM1.out.later hb)
  have HB2 := Lib.hid hb
  clear hb a0 a1 a2
  have a0 := HM2.out.c0
  have a1 := HM2.out.c1
  have a2 := HM2.out.c2
  go_wp2_with fail
  refine (HF2.out _ hw2).mono ?_
  rintro r w3 ⟨rfl, hb⟩
  have hw3 : Below w.heap.size w w3 := hw2.trans (hb.mono hw2.size)
  have HM3 := Lib.hid (HM2.out.later hb)
  have HB3 := Lib.hid hb
  clear hb a0 a1 a2
  have a0 := HM3.out.c0
  have a1 := HM3.out.c1
  have a2 := HM3.out.c2
  go_wp2_with fail
  go_ret
  exact ⟨rfl, hw3⟩
set_option maxRecDepth 100000 in
set_option maxHeartbeats 6400000 in
theorem mb_k_f (m : Mv) (e v x y : List Nd) (Ae Av : Option Addr) (ce cv : Nat) (k1 k2 kv : Int) (f1 f2 : Bool) (w : World) (HAe : Hid (NdSl w w.heap.size Ae e)) (HAv : Hid (NdSl w w.heap.size Av v))
    (HF1 : Hid (∀ W, Below w.heap.size w W → Calls Try.prog 19 #[.agg #[.int .i64 m.what, .string m.fr, .string m.to_], .slice Ae e.length ce] W fun r w' => r = .returned (.tuple #[.bool f1, errV k1]) ∧ Below W.heap.size W w'))
    (HF2 : Hid (∀ W, Below w.heap.size w W → Calls Try.prog 19 #[.agg #[.int .i64 m.what, .string m.fr, .string m.to_], .slice Av v.length cv] W fun r w' => r = .returned (.tuple #[.bool f2, errV k2]) ∧ Below W.heap.size W w'))
    (h1 : ¬ k1 = 0)
    (h2 : k2 = 0) (h2' : f2 = false) :
    Calls Try.prog 7 #[.agg #[.int .i64 m.what, .string m.fr, .string m.to_], .slice Ae e.length ce, .slice Av v.length cv] w fun r w' => r = .returned (.bool true) ∧ Below w.heap.size w w' := by
  have t0 := errV_zero
  have t1 : (k1 == 0) = false := by simp [h1]
  clear h1
  have t2 : (k2 != 0) = false := by simp [h2]
  subst h2'
  clear h2
  go_enter Try.func7, Try.ntmps7
  go_wp2_with fail
  obtain ⟨w0, hw0e⟩ : ∃ w0, w.alloc (.cells #[.int .i64 m.what, .string m.fr, .string m.to_] 51) = w0 := ⟨_, rfl⟩
  have hw0 : Below w.heap.size w w0 := by rw [← hw0e]; (repeat (first | assumption | exact Below.refl _ _ | apply Below.drew | apply below_drewN | (refine Below.alloc ?_ (by first | exact Nat.le_refl _ | omega | (simp; done) | (simp; omega)) _)))
  have HM0 : Hid (MCap m w.heap.size w0) := by rw [← hw0e]; exact MCap.new m w
  rw [hw0e]
  clear hw0e
  have a0 := HM0.out.c0
  have a1 := HM0.out.c1
  have a2 := HM0.out.c2
  refine (law_renamed w0).mono ?_
  rintro r w1 ⟨rfl, hb⟩
  have hw1 : Below w.heap.size w w1 := hw0.trans (hb.mono hw0.size)
  have HM1 := Lib.hid (HM0.out.later hb)
  have HB1 := Lib.hid hb
  clear hb a0 a1 a2
  have a0 := HM1.out.c0
  have a1 := HM1.out.c1
  have a2 := HM1.out.c2
  go_wp2_with fail
  refine (HF1.out _ hw1).mono ?_
  rintro r w2 ⟨rfl, hb⟩
  have hw2 : Below w.heap.size w w2 := hw1.trans (hb.mono hw1.size)
  have HM2 := Lib.hid (HM1.out.later hb)
  have HB2 := Lib.hid hb
  clear hb a0 a1 a2
  have a0 := HM2.out.c0
  have a1 := HM2.out.c1
  have a2 := HM2.out.c2
  go_wp2_with fail
  refine (HF2.out _ hw2).mono ?_
  rintro r w3 ⟨rfl, hb⟩
  have hw3 : Below w.heap.size w w3 := hw2.trans (hb.mono hw2.size)
  have HM3 := Lib.hid (HM2.out.later hb)
  have HB3 := Lib.hid hb
  clear hb a0 a1 a2
  have a0 := HM3.out.c0
  have a1 := HM3.out.c1
  have a2 := HM3.out.c2
  go_wp2_with fail
  go_ret
  exact ⟨rfl, hw3⟩
set_option maxRecDepth 100000 in
set_option maxHeartbeats 6400000 in
theorem mb_k_no (m : Mv) (e v x y : List Nd) (Ae Av : Option Addr) (ce cv : Nat) (k1 k2 kv : Int) (f1 f2 : Bool) (w : World) (HAe : Hid (NdSl w w.heap.size Ae e)) (HAv : Hid (NdSl w w.heap.size Av v))
    (HF1 : Hid (∀ W, Below w.heap.size w W → Calls Try.prog 19 #[.agg #[.int .i64 m.what, .string m.fr, .string m.to_], .slice Ae e.length ce] W fun r w' => r = .returned (.tuple #[.bool f1, errV k1]) ∧ Below W.heap.size W w'))
    (HF2 : Hid (∀ W, Below w.heap.size w W → Calls Try.prog 19 #[.agg #[.int .i64 m.what, .string m.fr, .string m.to_], .slice Av v.length cv] W fun r w' => r = .returned (.tuple #[.bool f2, errV k2]) ∧ Below W.heap.size W w'))
    (h1 : ¬ k1 = 0)
    (h2 : k2 = 0) (h2' : f2 = true)
    (HV1 : Hid (∀ W, Below w.heap.size w W → Calls Try.prog 23 #[.agg #[.int .i64 m.what, .string m.fr, .string m.to_], .slice Av v.length cv] W fun r w' => NdsBack W r w' [] kv)) (hkv : ¬ kv = 0)
    (HMF : Hid (∀ W, Calls Try.prog 24 #[.agg #[.int .i64 m.what, .string m.fr, .string m.to_]] W fun r w' => r = .returned (.int .i64 0) ∧ Below W.heap.size W w'))
    (HVN : Hid (∀ W, Below w.heap.size w W → Calls Try.prog 25 #[.slice Av v.length cv] W fun r w' => r = .returned (.bool false) ∧ Below W.heap.size W w')) :
    Calls Try.prog 7 #[.agg #[.int .i64 m.what, .string m.fr, .string m.to_], .slice Ae e.length ce, .slice Av v.length cv] w fun r w' => r = .returned (.bool true) ∧ Below w.heap.size w w' := by
  have t0 := errV_zero
  have t1 : (k1 == 0) = false := by simp [h1]
  clear h1
  subst h2 h2'
  rw [t0] at HF2
  have t3 : (kv != 0) = true := by simp [hkv]
  clear hkv
  go_enter Try.func7, Try.ntmps7
  go_wp2_with fail
  obtain ⟨w0, hw0e⟩ : ∃ w0, w.alloc (.cells #[.int .i64 m.what, .string m.fr, .string m.to_] 51) = w0 := ⟨_, rfl⟩
  have hw0 : Below w.heap.size w w0 := by rw [← hw0e]; (repeat (first | assumption | exact Below.refl _ _ | apply Below.drew | apply below_drewN | (refine Below.alloc ?_ (by first | exact Nat.le_refl _ | omega | (simp; done) | (simp; omega)) _)))
  have HM0 : Hid (MCap m w.heap.size w0) := by rw [← hw0e]; exact MCap.new m w
  rw [hw0e]
  clear hw0e
  have a0 := HM0.out.c0
  have a1 := HM0.out.c1
  have a2 := HM0.out.c2
  refine (law_renamed w0).mono ?_
  rintro r w1 ⟨rfl, hb⟩
  have hw1 : Below w.heap.size w w1 := hw0.trans (hb.mono hw0.size)
  have HM1 := Lib.hid (HM0.out.later hb)
  have HB1 := Lib.hid hb
  clear hb a0 a1 a2
  have a0 := HM1.out.c0
  have a1 := HM1.out.c1
  have a2 := HM1.out.c2
  go_wp2_with fail
  refine (HF1.out _ hw1).mono ?_
  rintro r w2 ⟨rfl, hb⟩
  have hw2 : Below w.heap.size w w2 := hw1.trans (hb.mono hw1.size)
  have HM2 := Lib.hid (HM1.out.later hb)
  have HB2 := Lib.hid hb
  clear hb a0 a1 a2
  have a0 := HM2.out.c0
  have a1 := HM2.out.c1
  have a2 := HM2.out.c2
  go_wp2_with fail
  refine (HF2.out _ hw2).mono ?_
  rintro r w3 ⟨rfl, hb⟩
  have hw3 : Below w.heap.size w w3 := hw2.trans (hb.mono hw2.size)
  have HM3 := Lib.hid (HM2.out.later hb)
  have HB3 := Lib.hid hb
  clear hb a0 a1 a2
  have a0 := HM3.out.c0
  have a1 := HM3.out.c1
  have a2 := HM3.out.c2
  go_wp2_with fail
  refine (HV1.out _ hw3).mono ?_
  rintro r w4 ⟨A4, c4, rfl, hl4, hm4, hs4, hb⟩
  have HS4 := Lib.hid hs4
  have HL4 := Lib.hid hl4
  clear hs4 hl4
  have hw4 : Below w.heap.size w w4 := hw3.trans (hb.mono hw3.size)
  have HM4 := Lib.hid (HM3.out.later hb)
  have HB4 := Lib.hid hb
  clear hb a0 a1 a2
  have a0 := HM4.out.c0
  have a1 := HM4.out.c1
  have a2 := HM4.out.c2
  go_wp2_with fail
  refine (HMF.out _).mono ?_
  rintro r w5 ⟨rfl, hb⟩
  have hw5 : Below w.heap.size w w5 := hw4.trans (hb.mono hw4.size)
  have HM5 := Lib.hid (HM4.out.later hb)
  have HB5 := Lib.hid hb
  clear hb a0 a1 a2
  have a0 := HM5.out.c0
  have a1 := HM5.out.c1
  have a2 := HM5.out.c2
  go_wp2_with fail
  refine (HVN.out _ hw5).mono ?_
  rintro r w6 ⟨rfl, hb⟩
  have hw6 : Below w.heap.size w w6 := hw5.trans (hb.mono hw5.size)
  have HM6 := Lib.hid (HM5.out.later hb)
  have HB6 := Lib.hid hb
  clear hb a0 a1 a2
  have a0 := HM6.out.c0
  have a1 := HM6.out.c1
  have a2 := HM6.out.c2
  go_wp2_with fail
  go_ret
  exact ⟨rfl, hw6⟩
set_option maxRecDepth 100000 in
set_option maxHeartbeats 6400000 in
theorem mb_k_yes (m : Mv) (e v x y : List Nd) (Ae Av : Option Addr) (ce cv : Nat) (k1 k2 kv : Int) (f1 f2 : Bool) (w : World) (HAe : Hid (NdSl w w.heap.size Ae e)) (HAv : Hid (NdSl w w.heap.size Av v))
    (HF1 : Hid (∀ W, Below w.heap.size w W → Calls Try.prog 19 #[.agg #[.int .i64 m.what, .string m.fr, .string m.to_], .slice Ae e.length ce] W fun r w' => r = .returned (.tuple #[.bool f1, errV k1]) ∧ Below W.heap.size W w'))
    (HF2 : Hid (∀ W, Below w.heap.size w W → Calls Try.prog 19 #[.agg #[.int .i64 m.what, .string m.fr, .string m.to_], .slice Av v.length cv] W fun r w' => r = .returned (.tuple #[.bool f2, errV k2]) ∧ Below W.heap.size W w'))
    (h1 : ¬ k1 = 0)
    (h2 : k2 = 0) (h2' : f2 = true)
    (HV1 : Hid (∀ W, Below w.heap.size w W → Calls Try.prog 23 #[.agg #[.int .i64 m.what, .string m.fr, .string m.to_], .slice Av v.length cv] W fun r w' => NdsBack W r w' y 0))
    (HV2 : Hid (∀ W c' A', y.length ≤ c' → c' ≤ 9223372036854775807 → NdSl W W.heap.size A' y → Calls Try.prog 23 #[.agg #[.int .i64 (backM m).what, .string (backM m).fr, .string (backM m).to_], .slice A' y.length c'] W fun r w' => NdsBack W r w' v 0)) :
    Calls Try.prog 7 #[.agg #[.int .i64 m.what, .string m.fr, .string m.to_], .slice Ae e.length ce, .slice Av v.length cv] w fun r w' => r = .returned (.bool true) ∧ Below w.heap.size w w' := by
  have t0 := errV_zero
  have t1 : (k1 == 0) = false := by simp [h1]
  clear h1
  subst h2 h2'
  rw [t0] at HF2
  go_enter Try.func7, Try.ntmps7
  go_wp2_with fail
  obtain ⟨w0, hw0e⟩ : ∃ w0, w.alloc (.cells #[.int .i64 m.what, .string m.fr, .string m.to_] 51) = w0 := ⟨_, rfl⟩
  have hw0 : Below w.heap.size w w0 := by rw [← hw0e]; (repeat (first | assumption | exact Below.refl _ _ | apply Below.drew | apply below_drewN | (refine Below.alloc ?_ (by first | exact Nat.le_refl _ | omega | (simp; done) | (simp; omega)) _)))
  have HM0 : Hid (MCap m w.heap.size w0) := by rw [← hw0e]; exact MCap.new m w
  rw [hw0e]
  clear hw0e
  have a0 := HM0.out.c0
  have a1 := HM0.out.c1
  have a2 := HM0.out.c2
  refine (law_renamed w0).mono ?_
  rintro r w1 ⟨rfl, hb⟩
  have hw1 : Below w.heap.size w w1 := hw0.trans (hb.mono hw0.size)
  have HM1 := Lib.hid (HM0.out.later hb)
  have HB1 := Lib.hid hb
  clear hb a0 a1 a2
  have a0 := HM1.out.c0
  have a1 := HM1.out.c1
  have a2 := HM1.out.c2
  go_wp2_with fail
  refine (HF1.out _ hw1).mono ?_
  rintro r w2 ⟨rfl, hb⟩
  have hw2 : Below w.heap.size w w2 := hw1.trans (hb.mono hw1.size)
  have HM2 := Lib.hid (HM1.out.later hb)
  have HB2 := Lib.hid hb
  clear hb a0 a1 a2
  have a0 := HM2.out.c0
  have a1 := HM2.out.c1
  have a2 := HM2.out.c2
  go_wp2_with fail
  refine (HF2.out _ hw2).mono ?_
  rintro r w3 ⟨rfl, hb⟩
  have hw3 : Below w.heap.size w w3 := hw2.trans (hb.mono hw2.size)
  have HM3 := Lib.hid (HM2.out.later hb)
  have HB3 := Lib.hid hb
  clear hb a0 a1 a2
  have a0 := HM3.out.c0
  have a1 := HM3.out.c1
  have a2 := HM3.out.c2
  go_wp2_with fail
  refine (HV1.out _ hw3).mono ?_
  rintro r w4 ⟨A4, c4, rfl, hl4, hm4, hs4, hb⟩
  have HS4 := Lib.hid hs4
  have HL4 := Lib.hid hl4
  clear hs4 hl4
  have hw4 : Below w.heap.size w w4 := hw3.trans (hb.mono hw3.size)
  have HM4 := Lib.hid (HM3.out.later hb)
  have HB4 := Lib.hid hb
  clear hb a0 a1 a2
  have a0 := HM4.out.c0
  have a1 := HM4.out.c1
  have a2 := HM4.out.c2
  go_wp2_with fail
  refine (law_back m _).mono ?_
  rintro r w5 ⟨rfl, hb⟩
  have hw5 : Below w.heap.size w w5 := hw4.trans (hb.mono hw4.size)
  have HM5 := Lib.hid (HM4.out.later hb)
  have HB5 := Lib.hid hb
  clear hb a0 a1 a2
  have a0 := HM5.out.c0
  have a1 := HM5.out.c1
  have a2 := HM5.out.c2
  go_wp2_with fail
  refine (HV2.out _ c4 A4 HL4.out hm4 ((HS4.out.below HB5.out).more HB5.out.size)).mono ?_
  rintro r w6 ⟨A6, c6, rfl, hl6, hm6, hs6, hb⟩
  have HS6 := Lib.hid hs6
  have HL6 := Lib.hid hl6
  clear hs6 hl6
  have hw6 : Below w.heap.size w w6 := hw5.trans (hb.mono hw5.size)
  have HM6 := Lib.hid (HM5.out.later hb)
  have HB6 := Lib.hid hb
  clear hb a0 a1 a2
  have a0 := HM6.out.c0
  have a1 := HM6.out.c1
  have a2 := HM6.out.c2
  go_wp2_with fail
  refine (same_Nodes v A6 Av c6 cv _ HS6.out ((HAv.out.below hw6).more hw6.size) (by have := HL6.out; omega)).mono ?_
  rintro r w7 ⟨rfl, hb⟩
  have hw7 : Below w.heap.size w w7 := hw6.trans (hb.mono hw6.size)
  have HM7 := Lib.hid (HM6.out.later hb)
  have HB7 := Lib.hid hb
  clear hb a0 a1 a2
  have a0 := HM7.out.c0
  have a1 := HM7.out.c1
  have a2 := HM7.out.c2
  go_wp2_with fail
  go_ret
  exact ⟨rfl, hw7⟩
set_option maxRecDepth 100000 in
set_option maxHeartbeats 6400000 in
theorem mb_f_k (m : Mv) (e v x y : List Nd) (Ae Av : Option Addr) (ce cv : Nat) (k1 k2 kv : Int) (f1 f2 : Bool) (w : World) (HAe : Hid (NdSl w w.heap.size Ae e)) (HAv : Hid (NdSl w w.heap.size Av v))
    (HF1 : Hid (∀ W, Below w.heap.size w W → Calls Try.prog 19 #[.agg #[.int .i64 m.what, .string m.fr, .string m.to_], .slice Ae e.length ce] W fun r w' => r = .returned (.tuple #[.bool f1, errV k1]) ∧ Below W.heap.size W w'))
    (HF2 : Hid (∀ W, Below w.heap.size w W → Calls Try.prog 19 #[.agg #[.int .i64 m.what, .string m.fr, .string m.to_], .slice Av v.length cv] W fun r w' => r = .returned (.tuple #[.bool f2, errV k2]) ∧ Below W.heap.size W w'))
    (h1 : k1 = 0) (h1' : f1 = false)
    (h2 : ¬ k2 = 0) :
    Calls Try.prog 7 #[.agg #[.int .i64 m.what, .string m.fr, .string m.to_], .slice Ae e.length ce, .slice Av v.length cv] w fun r w' => r = .returned (.bool true) ∧ Below w.heap.size w w' := by
  have t0 := errV_zero
  have t1 : (k1 == 0) = true := by simp [h1]
  subst h1'
  clear h1
  have t2 : (k2 != 0) = true := by simp [h2]
  clear h2
  go_enter Try.func7, Try.ntmps7
  go_wp2_with fail
  obtain ⟨w0, hw0e⟩ : ∃ w0, w.alloc (.cells #[.int .i64 m.what, .string m.fr, .string m.to_] 51) = w0 := ⟨_, rfl⟩
  have hw0 : Below w.heap.size w w0 := by rw [← hw0e]; (repeat (first | assumption | exact Below.refl _ _ | apply Below.drew | apply below_drewN | (refine Below.alloc ?_ (by first | exact Nat.le_refl _ | omega | (simp; done) | (simp; omega)) _)))
  have HM0 : Hid (MCap m w.heap.size w0) := by rw [← hw0e]; exact MCap.new m w
  rw [hw0e]
  clear hw0e
  have a0 := HM0.out.c0
  have a1 := HM0.out.c1
  have a2 := HM0.out.c2
  refine (law_renamed w0).mono ?_
  rintro r w1 ⟨rfl, hb⟩
  have hw1 : Below w.heap.size w w1 := hw0.trans (hb.mono hw0.size)
  have HM1 := Lib.hid (HM0.out.later hb)
  have HB1 := Lib.hid hb
  clear hb a0 a1 a2
  have a0 := HM1.out.c0
  have a1 := HM1.out.c1
  have a2 := HM1.out.c2
  go_wp2_with fail
  refine (HF1.out _ hw1).mono ?_
  rintro r w2 ⟨rfl, hb⟩
  have hw2 : Below w.heap.size w w2 := hw1.trans (hb.mono hw1.size)
  have HM2 := Lib.hid (HM1.out.later hb)
  have HB2 := Lib.hid hb
  clear hb a0 a1 a2
  have a0 := HM2.out.c0
  have a1 := HM2.out.c1
  have a2 := HM2.out.c2
  go_wp2_with fail
  refine (HF2.out _ hw2).mono ?_
  rintro r w3 ⟨rfl, hb⟩
  have hw3 : Below w.heap.size w w3 := hw2.trans (hb.mono hw2.size)
  have HM3 := Lib.hid (HM2.out.later hb)
  have HB3 := Lib.hid hb
  clear hb a0 a1 a2
  have a0 := HM3.out.c0
  have a1 := HM3.out.c1
  have a2 := HM3.out.c2
  go_wp2_with fail
  go_ret
  exact ⟨rfl, hw3⟩
set_option maxRecDepth 100000 in
set_option maxHeartbeats 6400000 in
theorem mb_f_f (m : Mv) (e v x y : List Nd) (Ae Av : Option Addr) (ce cv : Nat) (k1 k2 kv : Int) (f1 f2 : Bool) (w : World) (HAe : Hid (NdSl w w.heap.size Ae e)) (HAv : Hid (NdSl w w.heap.size Av v))
    (HF1 : Hid (∀ W, Below w.heap.size w W → Calls Try.prog 19 #[.agg #[.int .i64 m.what, .string m.fr, .string m.to_], .slice Ae e.length ce] W fun r w' => r = .returned (.tuple #[.bool f1, errV k1]) ∧ Below W.heap.size W w'))
    (HF2 : Hid (∀ W, Below w.heap.size w W → Calls Try.prog 19 #[.agg #[.int .i64 m.what, .string m.fr, .string m.to_], .slice Av v.length cv] W fun r w' => r = .returned (.tuple #[.bool f2, errV k2]) ∧ Below W.heap.size W w'))
    (h1 : k1 = 0) (h1' : f1 = false)
    (h2 : k2 = 0) (h2' : f2 = false) :
    Calls Try.prog 7 #[.agg #[.int .i64 m.what, .string m.fr, .string m.to_], .slice Ae e.length ce, .slice Av v.length cv] w fun r w' => r = .returned (.bool true) ∧ Below w.heap.size w w' := by
  have t0 := errV_zero
  have t1 : (k1 == 0) = true := by simp [h1]
  subst h1'
  clear h1
  have t2 : (k2 != 0) = false := by simp [h2]
  subst h2'
  clear h2
  go_enter Try.func7, Try.ntmps7
  go_wp2_with fail
  obtain ⟨w0, hw0e⟩ : ∃ w0, w.alloc (.cells #[.int .i64 m.what, .string m.fr, .string m.to_] 51) = w0 := ⟨_, rfl⟩
  have hw0 : Below w.heap.size w w0 := by rw [← hw0e]; (repeat (first | assumption | exact Below.refl _ _ | apply Below.drew | apply below_drewN | (refine Below.alloc ?_ (by first | exact Nat.le_refl _ | omega | (simp; done) | (simp; omega)) _)))
  have HM0 : Hid (MCap m w.heap.size w0) := by rw [← hw0e]; exact MCap.new m w
  rw [hw0e]
  clear hw0e
  have a0 := HM0.out.c0
  have a1 := HM0.out.c1
  have a2 := HM0.out.c2
  refine (law_renamed w0).mono ?_
  rintro r w1 ⟨rfl, hb⟩
  have hw1 : Below w.heap.size w w1 := hw0.trans (hb.mono hw0.size)
  have HM1 := Lib.hid (HM0.out.later hb)
  have HB1 := Lib.hid hb
  clear hb a0 a1 a2
  have a0 := HM1.out.c0
  have a1 := HM1.out.c1
  have a2 := HM1.out.c2
  go_wp2_with fail
  refine (HF1.out _ hw1).mono ?_
  rintro r w2 ⟨rfl, hb⟩
  have hw2 : Below w.heap.size w w2 := hw1.trans (hb.mono hw1.size)
  have HM2 := Lib.hid (HM1.out.later hb)
  have HB2 := Lib.hid hb
  clear hb a0 a1 a2
  have a0 := HM2.out.c0
  have a1 := HM2.out.c1
  have a2 := HM2.out.c2
  go_wp2_with fail
  refine (HF2.out _ hw2).mono ?_
  rintro r w3 ⟨rfl, hb⟩
  have hw3 : Below w.heap.size w w3 := hw2.trans (hb.mono hw2.size)
  have HM3 := Lib.hid (HM2.out.later hb)
  have HB3 := Lib.hid hb
  clear hb a0 a1 a2
  have a0 := HM3.out.c0
  have a1 := HM3.out.c1
  have a2 := HM3.out.c2
  go_wp2_with fail
  go_ret
  exact ⟨rfl, hw3⟩
set_option maxRecDepth 100000 in
set_option maxHeartbeats 6400000 in
theorem mb_f_no (m : Mv) (e v x y : List Nd) (Ae Av : Option Addr) (ce cv : Nat) (k1 k2 kv : Int) (f1 f2 : Bool) (w : World) (HAe : Hid (NdSl w w.heap.size Ae e)) (HAv : Hid (NdSl w w.heap.size Av v))
    (HF1 : Hid (∀ W, Below w.heap.size w W → Calls Try.prog 19 #[.agg #[.int .i64 m.what, .string m.fr, .string m.to_], .slice Ae e.length ce] W fun r w' => r = .returned (.tuple #[.bool f1, errV k1]) ∧ Below W.heap.size W w'))
    (HF2 : Hid (∀ W, Below w.heap.size w W → Calls Try.prog 19 #[.agg #[.int .i64 m.what, .string m.fr, .string m.to_], .slice Av v.length cv] W fun r w' => r = .returned (.tuple #[.bool f2, errV k2]) ∧ Below W.heap.size W w'))
    (h1 : k1 = 0) (h1' : f1 = false)
    (h2 : k2 = 0) (h2' : f2 = true)
    (HV1 : Hid (∀ W, Below w.heap.size w W → Calls Try.prog 23 #[.agg #[.int .i64 m.what, .string m.fr, .string m.to_], .slice Av v.length cv] W fun r w' => NdsBack W r w' [] kv)) (hkv : ¬ kv = 0)
    (HMF : Hid (∀ W, Calls Try.prog 24 #[.agg #[.int .i64 m.what, .string m.fr, .string m.to_]] W fun r w' => r = .returned (.int .i64 0) ∧ Below W.heap.size W w'))
    (HVN : Hid (∀ W, Below w.heap.size w W → Calls Try.prog 25 #[.slice Av v.length cv] W fun r w' => r = .returned (.bool false) ∧ Below W.heap.size W w')) :
    Calls Try.prog 7 #[.agg #[.int .i64 m.what, .string m.fr, .string m.to_], .slice Ae e.length ce, .slice Av v.length cv] w fun r w' => r = .returned (.bool true) ∧ Below w.heap.size w w' := by
  have t0 := errV_zero
  have t1 : (k1 == 0) = true := by simp [h1]
  subst h1'
  clear h1
  subst h2 h2'
  rw [t0] at HF2
  have t3 : (kv != 0) = true := by simp [hkv]
  clear hkv
  go_enter Try.func7, Try.ntmps7
  go_wp2_with fail
  obtain ⟨w0, hw0e⟩ : ∃ w0, w.alloc (.cells #[.int .i64 m.what, .string m.fr, .string m.to_] 51) = w0 := ⟨_, rfl⟩
  have hw0 : Below w.heap.size w w0 := by rw [← hw0e]; (repeat (first | assumption | exact Below.refl _ _ | apply Below.drew | apply below_drewN | (refine Below.alloc ?_ (by first | exact Nat.le_refl _ | omega | (simp; done) | (simp; omega)) _)))
  have HM0 : Hid (MCap m w.heap.size w0) := by rw [← hw0e]; exact MCap.new m w
  rw [hw0e]
  clear hw0e
  have a0 := HM0.out.c0
  have a1 := HM0.out.c1
  have a2 := HM0.out.c2
  refine (law_renamed w0).mono ?_
  rintro r w1 ⟨rfl, hb⟩
  have hw1 : Below w.heap.size w w1 := hw0.trans (hb.mono hw0.size)
  have HM1 := Lib.hid (HM0.out.later hb)
  have HB1 := Lib.hid hb
  clear hb a0 a1 a2
  have a0 := HM1.out.c0
  have a1 := HM1.out.c1
  have a2 := HM1.out.c2
  go_wp2_with fail
  refine (HF1.out _ hw1).mono ?_
  rintro r w2 ⟨rfl, hb⟩
  have hw2 : Below w.heap.size w w2 := hw1.trans (hb.mono hw1.size)
  have HM2 := Lib.hid (HM1.out.later hb)
  have HB2 := Lib.hid hb
  clear hb a0 a1 a2
  have a0 := HM2.out.c0
  have a1 := HM2.out.c1
  have a2 := HM2.out.c2
  go_wp2_with fail
  refine (HF2.out _ hw2).mono ?_
  rintro r w3 ⟨rfl, hb⟩
  have hw3 : Below w.heap.size w w3 := hw2.trans (hb.mono hw2.size)
  have HM3 := Lib.hid (HM2.out.later hb)
  have HB3 := Lib.hid hb
  clear hb a0 a1 a2
  have a0 := HM3.out.c0
  have a1 := HM3.out.c1
  have a2 := HM3.out.c2
  go_wp2_with fail
  refine (HV1.out _ hw3).mono ?_
  rintro r w4 ⟨A4, c4, rfl, hl4, hm4, hs4, hb⟩
  have HS4 := Lib.hid hs4
  have HL4 := Lib.hid hl4
  clear hs4 hl4
  have hw4 : Below w.heap.size w w4 := hw3.trans (hb.mono hw3.size)
  have HM4 := Lib.hid (HM3.out.later hb)
  have HB4 := Lib.hid hb
  clear hb a0 a1 a2
  have a0 := HM4.out.c0
  have a1 := HM4.out.c1
  have a2 := HM4.out.c2
  go_wp2_with fail
  refine (HMF.out _).mono ?_
  rintro r w5 ⟨rfl, hb⟩
  have hw5 : Below w.heap.size w w5 := hw4.trans (hb.mono hw4.size)
  have HM5 := Lib.hid (HM4.out.later hb)
  have HB5 := Lib.hid hb
  clear hb a0 a1 a2
  have a0 := HM5.out.c0
  have a1 := HM5.out.c1
  have a2 := HM5.out.c2
  go_wp2_with fail
  refine (HVN.out _ hw5).mono ?_
  rintro r w6 ⟨rfl, hb⟩
  have hw6 : Below w.heap.size w w6 := hw5.trans (hb.mono hw5.size)
  have HM6 := Lib.hid (HM5.out.later hb)
  have HB6 := Lib.hid hb
  clear hb a0 a1 a2
  have a0 := HM6.out.c0
  have a1 := HM6.out.c1
  have a2 := HM6.out.c2
  go_wp2_with fail
  go_ret
  exact ⟨rfl, hw6⟩
set_option maxRecDepth 100000 in
set_option maxHeartbeats 6400000 in
theorem mb_f_yes (m : Mv) (e v x y : List Nd) (Ae Av : Option Addr) (ce cv : Nat) (k1 k2 kv : Int) (f1 f2 : Bool) (w : World) (HAe : Hid (NdSl w w.heap.size Ae e)) (HAv : Hid (NdSl w w.heap.size Av v))
    (HF1 : Hid (∀ W, Below w.heap.size w W → Calls Try.prog 19 #[.agg #[.int .i64 m.what, .string m.fr, .string m.to_], .slice Ae e.length ce] W fun r w' => r = .returned (.tuple #[.bool f1, errV k1]) ∧ Below W.heap.size W w'))
    (HF2 : Hid (∀ W, Below w.heap.size w W → Calls Try.prog 19 #[.agg #[.int .i64 m.what, .string m.fr, .string m.to_], .slice Av v.length cv] W fun r w' => r = .returned (.tuple #[.bool f2, errV k2]) ∧ Below W.heap.size W w'))
    (h1 : k1 = 0) (h1' : f1 = false)
    (h2 : k2 = 0) (h2' : f2 = true)
    (HV1 : Hid (∀ W, Below w.heap.size w W → Calls Try.prog 23 #[.agg #[.int .i64 m.what, .string m.fr, .string m.to_], .slice Av v.length cv] W fun r w' => NdsBack W r w' y 0))
    (HV2 : Hid (∀ W c' A', y.length ≤ c' → c' ≤ 9223372036854775807 → NdSl W W.heap.size A' y → Calls Try.prog 23 #[.agg #[.int .i64 (backM m).what, .string (backM m).fr, .string (backM m).to_], .slice A' y.length c'] W fun r w' => NdsBack W r w' v 0)) :
    Calls Try.prog 7 #[.agg #[.int .i64 m.what, .string m.fr, .string m.to_], .slice Ae e.length ce, .slice Av v.length cv] w fun r w' => r = .returned (.bool true) ∧ Below w.heap.size w w' := by
  have t0 := errV_zero
  have t1 : (k1 == 0) = true := by simp [h1]
  subst h1'
  clear h1
  subst h2 h2'
  rw [t0] at HF2
  go_enter Try.func7, Try.ntmps7
  go_wp2_with fail
  obtain ⟨w0, hw0e⟩ : ∃ w0, w.alloc (.cells #[.int .i64 m.what, .string m.fr, .string m.to_] 51) = w0 := ⟨_, rfl⟩
  have hw0 : Below w.heap.size w w0 := by rw [← hw0e]; (repeat (first | assumption | exact Below.refl _ _ | apply Below.drew | apply below_drewN | (refine Below.alloc ?_ (by first | exact Nat.le_refl _ | omega | (simp; done) | (simp; omega)) _)))
  have HM0 : Hid (MCap m w.heap.size w0) := by rw [← hw0e]; exact MCap.new m w
  rw [hw0e]
  clear hw0e
  have a0 := HM0.out.c0
  have a1 := HM0.out.c1
  have a2 := HM0.out.c2
  refine (law_renamed w0).mono ?_
  rintro r w1 ⟨rfl, hb⟩
  have hw1 : Below w.heap.size w w1 := hw0.trans (hb.mono hw0.size)
  have HM1 := Lib.hid (HM0.out.later hb)
  have HB1 := Lib.hid hb
  clear hb a0 a1 a2
  have a0 := HM1.out.c0
  have a1 := HM1.out.c1
  have a2 := HM1.out.c2
  go_wp2_with fail
  refine (HF1.out _ hw1).mono ?_
  rintro r w2 ⟨rfl, hb⟩
  have hw2 : Below w.heap.size w w2 := hw1.trans (hb.mono hw1.size)
  have HM2 := Lib.hid (HM1.out.later hb)
  have HB2 := Lib.hid hb
  clear hb a0 a1 a2
  have a0 := HM2.out.c0
  have a1 := HM2.out.c1
  have a2 := HM2.out.c2
  go_wp2_with fail
  refine (HF2.out _ hw2).mono ?_
  rintro r w3 ⟨rfl, hb⟩
  have hw3 : Below w.heap.size w w3 := hw2.trans (hb.mono hw2.size)
  have HM3 := Lib.hid (HM2.out.later hb)
  have HB3 := Lib.hid hb
  clear hb a0 a1 a2
  have a0 := HM3.out.c0
  have a1 := HM3.out.c1
  have a2 := HM3.out.c2
  go_wp2_with fail
  refine (HV1.out _ hw3).mono ?_
  rintro r w4 ⟨A4, c4, rfl, hl4, hm4, hs4, hb⟩
  have HS4 := Lib.hid hs4
  have HL4 := Lib.hid hl4
  clear hs4 hl4
  have hw4 : Below w.heap.size w w4 := hw3.trans (hb.mono hw3.size)
  have HM4 := Lib.hid (HM3.out.later hb)
  have HB4 := Lib.hid hb
  clear hb a0 a1 a2
  have a0 := HM4.out.c0
  have a1 := HM4.out.c1
  have a2 := HM4.out.c2
  go_wp2_with fail
  refine (law_back m _).mono ?_
  rintro r w5 ⟨rfl, hb⟩
  have hw5 : Below w.heap.size w w5 := hw4.trans (hb.mono hw4.size)
  have HM5 := Lib.hid (HM4.out.later hb)
  have HB5 := Lib.hid hb
  clear hb a0 a1 a2
  have a0 := HM5.out.c0
  have a1 := HM5.out.c1
  have a2 := HM5.out.c2
  go_wp2_with fail
  refine (HV2.out _ c4 A4 HL4.out hm4 ((HS4.out.below HB5.out).more HB5.out.size)).mono ?_
  rintro r w6 ⟨A6, c6, rfl, hl6, hm6, hs6, hb⟩
  have HS6 := Lib.hid hs6
  have HL6 := Lib.hid hl6
  clear hs6 hl6
  have hw6 : Below w.heap.size w w6 := hw5.trans (hb.mono hw5.size)
  have HM6 := Lib.hid (HM5.out.later hb)
  have HB6 := Lib.hid hb
  clear hb a0 a1 a2
  have a0 := HM6.out.c0
  have a1 := HM6.out.c1
  have a2 := HM6.out.c2
  go_wp2_with fail
  refine (same_Nodes v A6 Av c6 cv _ HS6.out ((HAv.out.below hw6).more hw6.size) (by have := HL6.out; omega)).mono ?_
  rintro r w7 ⟨rfl, hb⟩
  have hw7 : Below w.heap.size w w7 := hw6.trans (hb.mono hw6.size)
  have HM7 := Lib.hid (HM6.out.later hb)
  have HB7 := Lib.hid hb
  clear hb a0 a1 a2
  have a0 := HM7.out.c0
  have a1 := HM7.out.c1
  have a2 := HM7.out.c2
  go_wp2_with fail
  go_ret
  exact ⟨rfl, hw7⟩
set_option maxRecDepth 100000 in
set_option maxHeartbeats 6400000 in
theorem mb_do_k (m : Mv) (e v x y : List Nd) (Ae Av : Option Addr) (ce cv : Nat) (k1 k2 kv : Int) (f1 f2 : Bool) (w : World) (HAe : Hid (NdSl w w.heap.size Ae e)) (HAv : Hid (NdSl w w.heap.size Av v))
    (HF1 : Hid (∀ W, Below w.heap.size w W → Calls Try.prog 19 #[.agg #[.int .i64 m.what, .string m.fr, .string m.to_], .slice Ae e.length ce] W fun r w' => r = .returned (.tuple #[.bool f1, errV k1]) ∧ Below W.heap.size W w'))
    (HF2 : Hid (∀ W, Below w.heap.size w W → Calls Try.prog 19 #[.agg #[.int .i64 m.what, .string m.fr, .string m.to_], .slice Av v.length cv] W fun r w' => r = .returned (.tuple #[.bool f2, errV k2]) ∧ Below W.heap.size W w'))
    (h1 : k1 = 0) (h1' : f1 = true)
    (HX1 : Hid (∀ W, Below w.heap.size w W → Calls Try.prog 20 #[.agg #[.int .i64 m.what, .string m.fr, .string m.to_], .slice Ae e.length ce] W fun r w' => NdsBack W r w' x 0))
    (HX2 : Hid (∀ W c' A', x.length ≤ c' → c' ≤ 9223372036854775807 → NdSl W W.heap.size A' x → Calls Try.prog 20 #[.agg #[.int .i64 (backM m).what, .string (backM m).fr, .string (backM m).to_], .slice A' x.length c'] W fun r w' => NdsBack W r w' e 0))
    (h2 : ¬ k2 = 0) :
    Calls Try.prog 7 #[.agg #[.int .i64 m.what, .string m.fr, .string m.to_], .slice Ae e.length ce, .slice Av v.length cv] w fun r w' => r = .returned (.bool true) ∧ Below w.heap.size w w' := by
  have t0 := errV_zero
  subst h1 h1'
  rw [t0] at HF1
  have t2 : (k2 != 0) = true := by simp [h2]
  clear h2
  go_enter Try.func7, Try.ntmps7
  go_wp2_with fail
  obtain ⟨w0, hw0e⟩ : ∃ w0, w.alloc (.cells #[.int .i64 m.what, .string m.fr, .string m.to_] 51) = w0 := ⟨_, rfl⟩
  have hw0 : Below w.heap.size w w0 := by rw [← hw0e]; (repeat (first | assumption | exact Below.refl _ _ | apply Below.drew | apply below_drewN | (refine Below.alloc ?_ (by first | exact Nat.le_refl _ | omega | (simp; done) | (simp; omega)) _)))
  have HM0 : Hid (MCap m w.heap.size w0) := by rw [← hw0e]; exact MCap.new m w
  rw [hw0e]
  clear hw0e
  have a0 := HM0.out.c0
  have a1 := HM0.out.c1
  have a2 := HM0.out.c2
  refine (law_renamed w0).mono ?_
  rintro r w1 ⟨rfl, hb⟩
  have hw1 : Below w.heap.size w w1 := hw0.trans (hb.mono hw0.size)
  have HM1 := Lib.hid (HM0.out.later hb)
  have HB1 := Lib.hid hb
  clear hb a0 a1 a2
  have a0 := HM1.out.c0
  have a1 := HM1.out.c1
  have a2 := HM1.out.c2
  go_wp2_with fail
  refine (HF1.out _ hw1).mono ?_
  rintro r w2 ⟨rfl, hb⟩
  have hw2 : Below w.heap.size w w2 := hw1.trans (hb.mono hw1.size)
  have HM2 := Lib.hid (HM1.out.later hb)
  have HB2 := Lib.hid hb
  clear hb a0 a1 a2
  have a0 := HM2.out.c0
  have a1 := HM2.out.c1
  have a2 := HM2.out.c2
  go_wp2_with fail
  refine (HX1.out _ hw2).mono ?_
  rintro r w3 ⟨A3, c3, rfl, hl3, hm3, hs3, hb⟩
  have HS3 := Lib.hid hs3
  have HL3 := Lib.hid hl3
  clear hs3 hl3
  have hw3 : Below w.heap.size w w3 := hw2.trans (hb.mono hw2.size)
  have HM3 := Lib.hid (HM2.out.later hb)
  have HB3 := Lib.hid hb
  clear hb a0 a1 a2
  have a0 := HM3.out.c0
  have a1 := HM3.out.c1
  have a2 := HM3.out.c2
  go_wp2_with fail
  refine (law_back m _).mono ?_
  rintro r w4 ⟨rfl, hb⟩
  have hw4 : Below w.heap.size w w4 := hw3.trans (hb.mono hw3.size)
  have HM4 := Lib.hid (HM3.out.later hb)
  have HB4 := Lib.hid hb
  clear hb a0 a1 a2
  have a0 := HM4.out.c0
  have a1 := HM4.out.c1
  have a2 := HM4.out.c2
  go_wp2_with fail
  refine (HX2.out _ c3 A3 HL3.out hm3 ((HS3.out.below HB4.out).more HB4.out.size)).mono ?_
  rintro r w5 ⟨A5, c5, rfl, hl5, hm5, hs5, hb⟩
  have HS5 := Lib.hid hs5
  have HL5 := Lib.hid hl5
  clear hs5 hl5
  have hw5 : Below w.heap.size w w5 := hw4.trans (hb.mono hw4.size)
  have HM5 := Lib.hid (HM4.out.later hb)
  have HB5 := Lib.hid hb
  clear hb a0 a1 a2
  have a0 := HM5.out.c0
  have a1 := HM5.out.c1
  have a2 := HM5.out.c2
  go_wp2_with fail
  refine (same_Nodes e A5 Ae c5 ce _ HS5.out ((HAe.out.below hw5).more hw5.size) (by have := HL5.out; omega)).mono ?_
  rintro r w6 ⟨rfl, hb⟩
  have hw6 : Below w.heap.size w w6 := hw5.trans (hb.mono hw5.size)
  have HM6 := Lib.hid (HM5.out.later hb)
  have HB6 := Lib.hid hb
  clear hb a0 a1 a2
  have a0 := HM6.out.c0
  have a1 := HM6.out.c1
  have a2 := HM6.out.c2
  go_wp2_with fail
  refine (HF2.out _ hw6).mono ?_
  rintro r w7 ⟨rfl, hb⟩
  have hw7 : Below w.heap.size w w7 := hw6.trans (hb.mono hw6.size)
  have HM7 := Lib.hid (HM6.out.later hb)
  have HB7 := Lib.hid hb
  clear hb a0 a1 a2
  have a0 := HM7.out.c0
  have a1 := HM7.out.c1
  have a2 := HM7.out.c2
  go_wp2_with fail
  go_ret
  exact ⟨rfl, hw7⟩
set_option maxRecDepth 100000 in
set_option maxHeartbeats 6400000 in
theorem mb_do_f (m : Mv) (e v x y : List Nd) (Ae Av : Option Addr) (ce cv : Nat) (k1 k2 kv : Int) (f1 f2 : Bool) (w : World) (HAe : Hid (NdSl w w.heap.size Ae e)) (HAv : Hid (NdSl w w.heap.size Av v))
    (HF1 : Hid (∀ W, Below w.heap.size w W → Calls Try.prog 19 #[.agg #[.int .i64 m.what, .string m.fr, .string m.to_], .slice Ae e.length ce] W fun r w' => r = .returned (.tuple #[.bool f1, errV k1]) ∧ Below W.heap.size W w'))
    (HF2 : Hid (∀ W, Below w.heap.size w W → Calls Try.prog 19 #[.agg #[.int .i64 m.what, .string m.fr, .string m.to_], .slice Av v.length cv] W fun r w' => r = .returned (.tuple #[.bool f2, errV k2]) ∧ Below W.heap.size W w'))
    (h1 : k1 = 0) (h1' : f1 = true)
    (HX1 : Hid (∀ W, Below w.heap.size w W → Calls Try.prog 20 #[.agg #[.int .i64 m.what, .string m.fr, .string m.to_], .slice Ae e.length ce] W fun r w' => NdsBack W r w' x 0))
    (HX2 : Hid (∀ W c' A', x.length ≤ c' → c' ≤ 9223372036854775807 → NdSl W W.heap.size A' x → Calls Try.prog 20 #[.agg #[.int .i64 (backM m).what, .string (backM m).fr, .string (backM m).to_], .slice A' x.length c'] W fun r w' => NdsBack W r w' e 0))
    (h2 : k2 = 0) (h2' : f2 = false) :
    Calls Try.prog 7 #[.agg #[.int .i64 m.what, .string m.fr, .string m.to_], .slice Ae e.length ce, .slice Av v.length cv] w fun r w' => r = .returned (.bool true) ∧ Below w.heap.size w w' := by
  have t0 := errV_zero
  subst h1 h1'
  rw [t0] at HF1
  have t2 : (k2 != 0) = false := by simp [h2]
  subst h2'
  clear h2
  go_enter Try.func7, Try.ntmps7
  go_wp2_with fail
  obtain ⟨w0, hw0e⟩ : ∃ w0, w.alloc (.cells #[.int .i64 m.what, .string m.fr, .string m.to_] 51) = w0 := ⟨_, rfl⟩
  have hw0 : Below w.heap.size w w0 := by rw [← hw0e]; (repeat (first | assumption | exact Below.refl _ _ | apply Below.drew | apply below_drewN | (refine Below.alloc ?_ (by first | exact Nat.le_refl _ | omega | (simp; done) | (simp; omega)) _)))
  have HM0 : Hid (MCap m w.heap.size w0) := by rw [← hw0e]; exact MCap.new m w
  rw [hw0e]
  clear hw0e
  have a0 := HM0.out.c0
  have a1 := HM0.out.c1
  have a2 := HM0.out.c2
  refine (law_renamed w0).mono ?_
  rintro r w1 ⟨rfl, hb⟩
  have hw1 : Below w.heap.size w w1 := hw0.trans (hb.mono hw0.size)
  have HM1 := Lib.hid (HM0.out.later hb)
  have HB1 := Lib.hid hb
  clear hb a0 a1 a2
  have a0 := HM1.out.c0
  have a1 := HM1.out.c1
  have a2 := HM1.out.c2
  go_wp2_with fail
  refine (HF1.out _ hw1).mono ?_
  rintro r w2 ⟨rfl, hb⟩
  have hw2 : Below w.heap.size w w2 := hw1.trans (hb.mono hw1.size)
  have HM2 := Lib.hid (HM1.out.later hb)
  have HB2 := Lib.hid hb
  clear hb a0 a1 a2
  have a0 := HM2.out.c0
  have a1 := HM2.out.c1
  have a2 := HM2.out.c2
  go_wp2_with fail
  refine (HX1.out _ hw2).mono ?_
  rintro r w3 ⟨A3, c3, rfl, hl3, hm3, hs3, hb⟩
  have HS3 := Lib.hid hs3
  have HL3 := Lib.hid hl3
  clear hs3 hl3
  have hw3 : Below w.heap.size w w3 := hw2.trans (hb.mono hw2.size)
  have HM3 := Lib.hid (HM2.out.later hb)
  have HB3 := Lib.hid hb
  clear hb a0 a1 a2
  have a0 := HM3.out.c0
  have a1 := HM3.out.c1
  have a2 := HM3.out.c2
  go_wp2_with fail
  refine (law_back m _).mono ?_
  rintro r w4 ⟨rfl, hb⟩
  have hw4 : Below w.heap.size w w4 := hw3.trans (hb.mono hw3.size)
  have HM4 := Lib.hid (HM3.out.later hb)
  have HB4 := Lib.hid hb
  clear hb a0 a1 a2
  have a0 := HM4.out.c0
  have a1 := HM4.out.c1
  have a2 := HM4.out.c2
  go_wp2_with fail
  refine (HX2.out _ c3 A3 HL3.out hm3 ((HS3.out.below HB4.out).more HB4.out.size)).mono ?_
  rintro r w5 ⟨A5, c5, rfl, hl5, hm5, hs5, hb⟩
  have HS5 := Lib.hid hs5
  have HL5 := Lib.hid hl5
  clear hs5 hl5
  have hw5 : Below w.heap.size w w5 := hw4.trans (hb.mono hw4.size)
  have HM5 := Lib.hid (HM4.out.later hb)
  have HB5 := Lib.hid hb
  clear hb a0 a1 a2
  have a0 := HM5.out.c0
  have a1 := HM5.out.c1
  have a2 := HM5.out.c2
  go_wp2_with fail
  refine (same_Nodes e A5 Ae c5 ce _ HS5.out ((HAe.out.below hw5).more hw5.size) (by have := HL5.out; omega)).mono ?_
  rintro r w6 ⟨rfl, hb⟩
  have hw6 : Below w.heap.size w w6 := hw5.trans (hb.mono hw5.size)
  have HM6 := Lib.hid (HM5.out.later hb)
  have HB6 := Lib.hid hb
  clear hb a0 a1 a2
  have a0 := HM6.out.c0
  have a1 := HM6.out.c1
  have a2 := HM6.out.c2
  go_wp2_with fail
  refine (HF2.out _ hw6).mono ?_
  rintro r w7 ⟨rfl, hb⟩
  have hw7 : Below w.heap.size w w7 := hw6.trans (hb.mono hw6.size)
  have HM7 := Lib.hid (HM6.out.later hb)
  have HB7 := Lib.hid hb
  clear hb a0 a1 a2
  have a0 := HM7.out.c0
  have a1 := HM7.out.c1
  have a2 := HM7.out.c2
  go_wp2_with fail
  go_ret
  exact ⟨rfl, hw7⟩
set_option maxRecDepth 100000 in
set_option maxHeartbeats 6400000 in
theorem mb_do_no (m : Mv) (e v x y : List Nd) (Ae Av : Option Addr) (ce cv : Nat) (k1 k2 kv : Int) (f1 f2 : Bool) (w : World) (HAe : Hid (NdSl w w.heap.size Ae e)) (HAv : Hid (NdSl w w.heap.size Av v))
    (HF1 : Hid (∀ W, Below w.heap.size w W → Calls Try.prog 19 #[.agg #[.int .i64 m.what, .string m.fr, .string m.to_], .slice Ae e.length ce] W fun r w' => r = .returned (.tuple #[.bool f1, errV k1]) ∧ Below W.heap.size W w'))
    (HF2 : Hid (∀ W, Below w.heap.size w W → Calls Try.prog 19 #[.agg #[.int .i64 m.what, .string m.fr, .string m.to_], .slice Av v.length cv] W fun r w' => r = .returned (.tuple #[.bool f2, errV k2]) ∧ Below W.heap.size W w'))
    (h1 : k1 = 0) (h1' : f1 = true)
    (HX1 : Hid (∀ W, Below w.heap.size w W → Calls Try.prog 20 #[.agg #[.int .i64 m.what, .string m.fr, .string m.to_], .slice Ae e.length ce] W fun r w' => NdsBack W r w' x 0))
    (HX2 : Hid (∀ W c' A', x.length ≤ c' → c' ≤ 9223372036854775807 → NdSl W W.heap.size A' x → Calls Try.prog 20 #[.agg #[.int .i64 (backM m).what, .string (backM m).fr, .string (backM m).to_], .slice A' x.length c'] W fun r w' => NdsBack W r w' e 0))
    (h2 : k2 = 0) (h2' : f2 = true)
    (HV1 : Hid (∀ W, Below w.heap.size w W → Calls Try.prog 23 #[.agg #[.int .i64 m.what, .string m.fr, .string m.to_], .slice Av v.length cv] W fun r w' => NdsBack W r w' [] kv)) (hkv : ¬ kv = 0)
    (HMF : Hid (∀ W, Calls Try.prog 24 #[.agg #[.int .i64 m.what, .string m.fr, .string m.to_]] W fun r w' => r = .returned (.int .i64 0) ∧ Below W.heap.size W w'))
    (HVN : Hid (∀ W, Below w.heap.size w W → Calls Try.prog 25 #[.slice Av v.length cv] W fun r w' => r = .returned (.bool false) ∧ Below W.heap.size W w')) :
    Calls Try.prog 7 #[.agg #[.int .i64 m.what, .string m.fr, .string m.to_], .slice Ae e.length ce, .slice Av v.length cv] w fun r w' => r = .returned (.bool true) ∧ Below w.heap.size w w' := by
  have t0 := errV_zero
  subst h1 h1'
  rw [t0] at HF1
  subst h2 h2'
  rw [t0] at HF2
  have t3 : (kv != 0) = true := by simp [hkv]
  clear hkv
  go_enter Try.func7, Try.ntmps7
  go_wp2_with fail
  obtain ⟨w0, hw0e⟩ : ∃ w0, w.alloc (.cells #[.int .i64 m.what, .string m.fr, .string m.to_] 51) = w0 := ⟨_, rfl⟩
  have hw0 : Below w.heap.size w w0 := by rw [← hw0e]; (repeat (first | assumption | exact Below.refl _ _ | apply Below.drew | apply below_drewN | (refine Below.alloc ?_ (by first | exact Nat.le_refl _ | omega | (simp; done) | (simp; omega)) _)))
  have HM0 : Hid (MCap m w.heap.size w0) := by rw [← hw0e]; exact MCap.new m w
  rw [hw0e]
  clear hw0e
  have a0 := HM0.out.c0
  have a1 := HM0.out.c1
  have a2 := HM0.out.c2
  refine (law_renamed w0).mono ?_
  rintro r w1 ⟨rfl, hb⟩
  have hw1 : Below w.heap.size w w1 := hw0.trans (hb.mono hw0.size)
  have HM1 := Lib.hid (HM0.out.later hb)
  have HB1 := Lib.hid hb
  clear hb a0 a1 a2
  have a0 := HM1.out.c0
  have a1 := HM1.out.c1
  have a2 := HM1.out.c2
  go_wp2_with fail
  refine (HF1.out _ hw1).mono ?_
  rintro r w2 ⟨rfl, hb⟩
  have hw2 : Below w.heap.size w w2 := hw1.trans (hb.mono hw1.size)
  have HM2 := Lib.hid (HM1.out.later hb)
  have HB2 := Lib.hid hb
  clear hb a0 a1 a2
  have a0 := HM2.out.c0
  have a1 := HM2.out.c1
  have a2 := HM2.out.c2
  go_wp2_with fail
  refine (HX1.out _ hw2).mono ?_
  rintro r w3 ⟨A3, c3, rfl, hl3, hm3, hs3, hb⟩
  have HS3 := Lib.hid hs3
  have HL3 := Lib.hid hl3
  clear hs3 hl3
  have hw3 : Below w.heap.size w w3 := hw2.trans (hb.mono hw2.size)
  have HM3 := Lib.hid (HM2.out.later hb)
  have HB3 := Lib.hid hb
  clear hb a0 a1 a2
  have a0 := HM3.out.c0
  have a1 := HM3.out.c1
  have a2 := HM3.out.c2
  go_wp2_with fail
  refine (law_back m _).mono ?_
  rintro r w4 ⟨rfl, hb⟩
  have hw4 : Below w.heap.size w w4 := hw3.trans (hb.mono hw3.size)
  have HM4 := Lib.hid (HM3.out.later hb)
  have HB4 := Lib.hid hb
  clear hb a0 a1 a2
  have a0 := HM4.out.c0
  have a1 := HM4.out.c1
  have a2 := HM4.out.c2
  go_wp2_with fail
  refine (HX2.out _ c3 A3 HL3.out hm3 ((HS3.out.below HB4.out).more HB4.out.size)).mono ?_
  rintro r w5 ⟨A5, c5, rfl, hl5, hm5, hs5, hb⟩
  have HS5 := Lib.hid hs5
  have HL5 := Lib.hid hl5
  clear hs5 hl5
  have hw5 : Below w.heap.size w w5 := hw4.trans (hb.mono hw4.size)
  have HM5 := Lib.hid (HM4.out.later hb)
  have HB5 := Lib.hid hb
  clear hb a0 a1 a2
  have a0 := HM5.out.c0
  have a1 := HM5.out.c1
  have a2 := HM5.out.c2
  go_wp2_with fail
  refine (same_Nodes e A5 Ae c5 ce _ HS5.out ((HAe.out.below hw5).more hw5.size) (by have := HL5.out; omega)).mono ?_
  rintro r w6 ⟨rfl, hb⟩
  have hw6 : Below w.heap.size w w6 := hw5.trans (hb.mono hw5.size)
  have HM6 := Lib.hid (HM5.out.later hb)
  have HB6 := Lib.hid hb
  clear hb a0 a1 a2
  have a0 := HM6.out.c0
  have a1 := HM6.out.c1
  have a2 := HM6.out.c2
  go_wp2_with fail
  refine (HF2.out _ hw6).mono ?_
  rintro r w7 ⟨rfl, hb⟩
  have hw7 : Below w.heap.size w w7 := hw6.trans (hb.mono hw6.size)
  have HM7 := Lib.hid (HM6.out.later hb)
  have HB7 := Lib.hid hb
  clear hb a0 a1 a2
  have a0 := HM7.out.c0
  have a1 := HM7.out.c1
  have a2 := HM7.out.c2
  go_wp2_with fail
  refine (HV1.out _ hw7).mono ?_
  rintro r w8 ⟨A8, c8, rfl, hl8, hm8, hs8, hb⟩
  have HS8 := Lib.hid hs8
  have HL8 := Lib.hid hl8
  clear hs8 hl8
  have hw8 : Below w.heap.size w w8 := hw7.trans (hb.mono hw7.size)
  have HM8 := Lib.hid (HM7.out.later hb)
  have HB8 := Lib.hid hb
  clear hb a0 a1 a2
  have a0 := HM8.out.c0
  have a1 := HM8.out.c1
  have a2 := HM8.out.c2
  go_wp2_with fail
  refine (HMF.out _).mono ?_
  rintro r w9 ⟨rfl, hb⟩
  have hw9 : Below w.heap.size w w9 := hw8.trans (hb.mono hw8.size)
  have HM9 := Lib.hid (HM8.out.later hb)
  have HB9 := Lib.hid hb
  clear hb a0 a1 a2
  have a0 := HM9.out.c0
  have a1 := HM9.out.c1
  have a2 := HM9.out.c2
  go_wp2_with fail
  refine (HVN.out _ hw9).mono ?_
  rintro r w10 ⟨rfl, hb⟩
  have hw10 : Below w.heap.size w w10 := hw9.trans (hb.mono hw9.size)
  have HM10 := Lib.hid (HM9.out.later hb)
  have HB10 := Lib.hid hb
  clear hb a0 a1 a2
  have a0 := HM10.out.c0
  have a1 := HM10.out.c1
  have a2 := HM10.out.c2
  go_wp2_with fail
  go_ret
  exact ⟨rfl, hw10⟩
set_option maxRecDepth 100000 in
set_option maxHeartbeats 6400000 in
theorem mb_do_yes (m : Mv) (e v x y : List Nd) (Ae Av : Option Addr) (ce cv : Nat) (k1 k2 kv : Int) (f1 f2 : Bool) (w : World) (HAe : Hid (NdSl w w.heap.size Ae e)) (HAv : Hid (NdSl w w.heap.size Av v))
    (HF1 : Hid (∀ W, Below w.heap.size w W → Calls Try.prog 19 #[.agg #[.int .i64 m.what, .string m.fr, .string m.to_], .slice Ae e.length ce] W fun r w' => r = .returned (.tuple #[.bool f1, errV k1]) ∧ Below W.heap.size W w'))
    (HF2 : Hid (∀ W, Below w.heap.size w W → Calls Try.prog 19 #[.agg #[.int .i64 m.what, .string m.fr, .string m.to_], .slice Av v.length cv] W fun r w' => r = .returned (.tuple #[.bool f2, errV k2]) ∧ Below W.heap.size W w'))
    (h1 : k1 = 0) (h1' : f1 = true)
    (HX1 : Hid (∀ W, Below w.heap.size w W → Calls Try.prog 20 #[.agg #[.int .i64 m.what, .string m.fr, .string m.to_], .slice Ae e.length ce] W fun r w' => NdsBack W r w' x 0))
    (HX2 : Hid (∀ W c' A', x.length ≤ c' → c' ≤ 9223372036854775807 → NdSl W W.heap.size A' x → Calls Try.prog 20 #[.agg #[.int .i64 (backM m).what, .string (backM m).fr, .string (backM m).to_], .slice A' x.length c'] W fun r w' => NdsBack W r w' e 0))
    (h2 : k2 = 0) (h2' : f2 = true)
    (HV1 : Hid (∀ W, Below w.heap.size w W → Calls Try.prog 23 #[.agg #[.int .i64 m.what, .string m.fr, .string m.to_], .slice Av v.length cv] W fun r w' => NdsBack W r w' y 0))
    (HV2 : Hid (∀ W c' A', y.length ≤ c' → c' ≤ 9223372036854775807 → NdSl W W.heap.size A' y → Calls Try.prog 23 #[.agg #[.int .i64 (backM m).what, .string (backM m).fr, .string (backM m).to_], .slice A' y.length c'] W fun r w' => NdsBack W r w' v 0)) :
    Calls Try.prog 7 #[.agg #[.int .i64 m.what, .string m.fr, .string m.to_], .slice Ae e.length ce, .slice Av v.length cv] w fun r w' => r = .returned (.bool true) ∧ Below w.heap.size w w' := by
  have t0 := errV_zero
  subst h1 h1'
  rw [t0] at HF1
  subst h2 h2'
  rw [t0] at HF2
  go_enter Try.func7, Try.ntmps7
  go_wp2_with fail
  obtain ⟨w0, hw0e⟩ : ∃ w0, w.alloc (.cells #[.int .i64 m.what, .string m.fr, .string m.to_] 51) = w0 := ⟨_, rfl⟩
  have hw0 : Below w.heap.size w w0 := by rw [← hw0e]; (repeat (first | assumption | exact Below.refl _ _ | apply Below.drew | apply below_drewN | (refine Below.alloc ?_ (by first | exact Nat.le_refl _ | omega | (simp; done) | (simp; omega)) _)))
  have HM0 : Hid (MCap m w.heap.size w0) := by rw [← hw0e]; exact MCap.new m w
  rw [hw0e]
  clear hw0e
  have a0 := HM0.out.c0
  have a1 := HM0.out.c1
  have a2 := HM0.out.c2
  refine (law_renamed w0).mono ?_
  rintro r w1 ⟨rfl, hb⟩
  have hw1 : Below w.heap.size w w1 := hw0.trans (hb.mono hw0.size)
  have HM1 := Lib.hid (HM0.out.later hb)
  have HB1 := Lib.hid hb
  clear hb a0 a1 a2
  have a0 := HM1.out.c0
  have a1 := HM1.out.c1
  have a2 := HM1.out.c2
  go_wp2_with fail
  refine (HF1.out _ hw1).mono ?_
  rintro r w2 ⟨rfl, hb⟩
  have hw2 : Below w.heap.size w w2 := hw1.trans (hb.mono hw1.size)
  have HM2 := Lib.hid (HM1.out.later hb)
  have HB2 := Lib.hid hb
  clear hb a0 a1 a2
  have a0 := HM2.out.c0
  have a1 := HM2.out.c1
  have a2 := HM2.out.c2
  go_wp2_with fail
  refine (HX1.out _ hw2).mono ?_
  rintro r w3 ⟨A3, c3, rfl, hl3, hm3, hs3, hb⟩
  have HS3 := Lib.hid hs3
  have HL3 := Lib.hid hl3
  clear hs3 hl3
  have hw3 : Below w.heap.size w w3 := hw2.trans (hb.mono hw2.size)
  have HM3 := Lib.hid (HM2.out.later hb)
  have HB3 := Lib.hid hb
  clear hb a0 a1 a2
  have a0 := HM3.out.c0
  have a1 := HM3.out.c1
  have a2 := HM3.out.c2
  go_wp2_with fail
  refine (law_back m _).mono ?_
  rintro r w4 ⟨rfl, hb⟩
  have hw4 : Below w.heap.size w w4 := hw3.trans (hb.mono hw3.size)
  have HM4 := Lib.hid (HM3.out.later hb)
  have HB4 := Lib.hid hb
  clear hb a0 a1 a2
  have a0 := HM4.out.c0
  have a1 := HM4.out.c1
  have a2 := HM4.out.c2
  go_wp2_with fail
  refine (HX2.out _ c3 A3 HL3.out hm3 ((HS3.out.below HB4.out).more HB4.out.size)).mono ?_
  rintro r w5 ⟨A5, c5, rfl, hl5, hm5, hs5, hb⟩
  have HS5 := Lib.hid hs5
  have HL5 := Lib.hid hl5
  clear hs5 hl5
  have hw5 : Below w.heap.size w w5 := hw4.trans (hb.mono hw4.size)
  have HM5 := Lib.hid (HM4.out.later hb)
  have HB5 := Lib.hid hb
  clear hb a0 a1 a2
  have a0 := HM5.out.c0
  have a1 := HM5.out.c1
  have a2 := HM5.out.c2
  go_wp2_with fail
  refine (same_Nodes e A5 Ae c5 ce _ HS5.out ((HAe.out.below hw5).more hw5.size) (by have := HL5.out; omega)).mono ?_
  rintro r w6 ⟨rfl, hb⟩
  have hw6 : Below w.heap.size w w6 := hw5.trans (hb.mono hw5.size)
  have HM6 := Lib.hid (HM5.out.later hb)
  have HB6 := Lib.hid hb
  clear hb a0 a1 a2
  have a0 := HM6.out.c0
  have a1 := HM6.out.c1
  have a2 := HM6.out.c2
  go_wp2_with fail
  refine (HF2.out _ hw6).mono ?_
  rintro r w7 ⟨rfl, hb⟩
  have hw7 : Below w.heap.size w w7 := hw6.trans (hb.mono hw6.size)
  have HM7 := Lib.hid (HM6.out.later hb)
  have HB7 := Lib.hid hb
  clear hb a0 a1 a2
  have a0 := HM7.out.c0
  have a1 := HM7.out.c1
  have a2 := HM7.out.c2
  go_wp2_with fail
  refine (HV1.out _ hw7).mono ?_
  rintro r w8 ⟨A8, c8, rfl, hl8, hm8, hs8, hb⟩
  have HS8 := Lib.hid hs8
  have HL8 := Lib.hid hl8
  clear hs8 hl8
  have hw8 : Below w.heap.size w w8 := hw7.trans (hb.mono hw7.size)
  have HM8 := Lib.hid (HM7.out.later hb)
  have HB8 := Lib.hid hb
  clear hb a0 a1 a2
  have a0 := HM8.out.c0
  have a1 := HM8.out.c1
  have a2 := HM8.out.c2
  go_wp2_with fail
  refine (law_back m _).mono ?_
  rintro r w9 ⟨rfl, hb⟩
  have hw9 : Below w.heap.size w w9 := hw8.trans (hb.mono hw8.size)
  have HM9 := Lib.hid (HM8.out.later hb)
  have HB9 := Lib.hid hb
  clear hb a0 a1 a2
  have a0 := HM9.out.c0
  have a1 := HM9.out.c1
  have a2 := HM9.out.c2
  go_wp2_with fail
  refine (HV2.out _ c8 A8 HL8.out hm8 ((HS8.out.below HB9.out).more HB9.out.size)).mono ?_
  rintro r w10 ⟨A10, c10, rfl, hl10, hm10, hs10, hb⟩
  have HS10 := Lib.hid hs10
  have HL10 := Lib.hid hl10
  clear hs10 hl10
  have hw10 : Below w.heap.size w w10 := hw9.trans (hb.mono hw9.size)
  have HM10 := Lib.hid (HM9.out.later hb)
  have HB10 := Lib.hid hb
  clear hb a0 a1 a2
  have a0 := HM10.out.c0
  have a1 := HM10.out.c1
  have a2 := HM10.out.c2
  go_wp2_with fail
  refine (same_Nodes v A10 Av c10 cv _ HS10.out ((HAv.out.below hw10).more hw10.size) (by have := HL10.out; omega)).mono ?_
  rintro r w11 ⟨rfl, hb⟩
  have hw11 : Below w.heap.size w w11 := hw10.trans (hb.mono hw10.size)
  have HM11 := Lib.hid (HM10.out.later hb)
  have HB11 := Lib.hid hb
  clear hb a0 a1 a2
  have a0 := HM11.out.c0
  have a1 := HM11.out.c1
  have a2 := HM11.out.c2
  go_wp2_with fail
  go_ret
  exact ⟨rfl, hw11⟩
theorem law_mb (m : Mv) (e v : List Nd) (Ae Av : Option Addr) (ce cv : Nat) (w : World) (hz : MvZ m) (hce : e.length ≤ ce) (hcme : ce ≤ 9223372036854775807) (hoke : NdOk e) (hsle : NdSl w w.heap.size Ae e)
    (hcv : v.length ≤ cv) (hcmv : cv ≤ 9223372036854775807) (hokv : NdOk v) (hslv : NdSl w w.heap.size Av v) :
    Calls Try.prog 7 #[.agg #[.int .i64 m.what, .string m.fr, .string m.to_], .slice Ae e.length ce, .slice Av v.length cv] w fun r w' => r = .returned (.bool true) ∧ Below w.heap.size w w' := by
  have HAe := Lib.hid hsle
  have HAv := Lib.hid hslv
  have hzb : MvZ (backM m) := ⟨hz.2, hz.1⟩
  have HF1 := Lib.hid (fun W (hW : Below w.heap.size w W) => move_Fresh m e Ae ce W hz hce hcme hoke ((hsle.below hW).more hW.size))
  have HF2 := Lib.hid (fun W (hW : Below w.heap.size w W) => move_Fresh m v Av cv W hz hcv hcmv hokv ((hslv.below hW).more hW.size))
  have HE : (freshV m e).2 = 0 → (freshV m e).1 = true → ∃ x, Hid (∀ W, Below w.heap.size w W → Calls Try.prog 20 #[.agg #[.int .i64 m.what, .string m.fr, .string m.to_], .slice Ae e.length ce] W fun r w' => NdsBack W r w' x 0) ∧
      Hid (∀ W c' A', x.length ≤ c' → c' ≤ 9223372036854775807 → NdSl W W.heap.size A' x → Calls Try.prog 20 #[.agg #[.int .i64 (backM m).what, .string (backM m).fr, .string (backM m).to_], .slice A' x.length c'] W fun r w' => NdsBack W r w' e 0) := by
    intro h1 h2
    obtain ⟨m1, m2, m3⟩ := fresh_ok h1 h2
    obtain ⟨x, p1, p2, p3⟩ := back_expr m1 m2 m3
    refine ⟨x, fun W hW => ?_, fun W c' A' g1 g2 g3 => ?_⟩
    · have := move_Expr m e Ae ce W hz hce hcme hoke ((hsle.below hW).more hW.size)
      rw [exprM_ok m1 m2 p1] at this; exact this
    · have := move_Expr (backM m) x A' c' W hzb g1 g2 (tree_nok p2) g3
      rw [exprM_ok (back_ok m1) p2 p3] at this; exact this
  have HVY : (freshV m v).2 = 0 → (freshV m v).1 = true → valErr v = 0 → ∃ y, Hid (∀ W, Below w.heap.size w W → Calls Try.prog 23 #[.agg #[.int .i64 m.what, .string m.fr, .string m.to_], .slice Av v.length cv] W fun r w' => NdsBack W r w' y 0) ∧
      Hid (∀ W c' A', y.length ≤ c' → c' ≤ 9223372036854775807 → NdSl W W.heap.size A' y → Calls Try.prog 23 #[.agg #[.int .i64 (backM m).what, .string (backM m).fr, .string (backM m).to_], .slice A' y.length c'] W fun r w' => NdsBack W r w' v 0) := by
    intro h1 h2 hv
    obtain ⟨m1, m2, m3⟩ := fresh_ok h1 h2
    obtain ⟨x, p1, p2, p3⟩ := back_value m1 hv m3
    refine ⟨x, fun W hW => ?_, fun W c' A' g1 g2 g3 => ?_⟩
    · have := move_Value m v Av cv W hz hcv hcmv hokv ((hslv.below hW).more hW.size)
      rw [valueM_ok m1 hv p1] at this; exact this
    · have := move_Value (backM m) x A' c' W hzb g1 g2 (ex_nok (vx_ex ((val_iff x).1 p2).2)) g3
      rw [valueM_ok (back_ok m1) p2 p3] at this; exact this
  have HNO : (freshV m v).2 = 0 → (freshV m v).1 = true → ¬ valErr v = 0 → Hid (∀ W, Below w.heap.size w W → Calls Try.prog 23 #[.agg #[.int .i64 m.what, .string m.fr, .string m.to_], .slice Av v.length cv] W fun r w' => NdsBack W r w' [] (valErr v)) ∧
      Hid (∀ W, Calls Try.prog 24 #[.agg #[.int .i64 m.what, .string m.fr, .string m.to_]] W fun r w' => r = .returned (.int .i64 0) ∧ Below W.heap.size W w') := by
    intro h1 h2 hv
    obtain ⟨m1, m2, m3⟩ := fresh_ok h1 h2
    refine ⟨fun W hW => ?_, fun W => ?_⟩
    · have := move_Value m v Av cv W hz hcv hcmv hokv ((hslv.below hW).more hW.size)
      have hq : valueM m v = ([], valErr v) := by unfold valueM; rw [if_neg (by simp [m1]), if_pos hv]
      rw [hq] at this; exact this
    · have := r4_MoveFault m W hz
      rw [m1] at this; exact this
  have HVN : ¬ valErr v = 0 → Hid (∀ W, Below w.heap.size w W → Calls Try.prog 25 #[.slice Av v.length cv] W fun r w' => r = .returned (.bool false) ∧ Below W.heap.size W w') := fun hv W hW => law_valued_no v Av cv W hcv hcmv hokv ((hslv.below hW).more hW.size) hv
  by_cases h1 : (freshV m e).2 = 0
  · cases h1' : (freshV m e).1 with
    | true =>
      obtain ⟨x, X1, X2⟩ := HE h1 h1'
      rw [h1'] at HF1
      by_cases h2 : (freshV m v).2 = 0
      · cases h2' : (freshV m v).1 with
        | true =>
          rw [h2'] at HF2
          by_cases hv : valErr v = 0
          · obtain ⟨y, Y1, Y2⟩ := HVY h2 h2' hv
            exact mb_do_yes m e v x y Ae Av ce cv _ _ 0 _ _ w HAe HAv HF1 HF2 h1 rfl X1 X2 h2 rfl Y1 Y2
          · obtain ⟨Y1, Y2⟩ := HNO h2 h2' hv
            exact mb_do_no m e v x [] Ae Av ce cv _ _ _ _ _ w HAe HAv HF1 HF2 h1 rfl X1 X2 h2 rfl Y1 hv Y2 (HVN hv)
        | false =>
          rw [h2'] at HF2
          exact mb_do_f m e v x [] Ae Av ce cv _ _ 0 _ _ w HAe HAv HF1 HF2 h1 rfl X1 X2 h2 rfl
      · exact mb_do_k m e v x [] Ae Av ce cv _ _ 0 _ _ w HAe HAv HF1 HF2 h1 rfl X1 X2 h2
    | false =>
      rw [h1'] at HF1
      by_cases h2 : (freshV m v).2 = 0
      · cases h2' : (freshV m v).1 with
        | true =>
          rw [h2'] at HF2
          by_cases hv : valErr v = 0
          · obtain ⟨y, Y1, Y2⟩ := HVY h2 h2' hv
            exact mb_f_yes m e v [] y Ae Av ce cv _ _ 0 _ _ w HAe HAv HF1 HF2 h1 rfl h2 rfl Y1 Y2
          · obtain ⟨Y1, Y2⟩ := HNO h2 h2' hv
            exact mb_f_no m e v [] [] Ae Av ce cv _ _ _ _ _ w HAe HAv HF1 HF2 h1 rfl h2 rfl Y1 hv Y2 (HVN hv)
        | false =>
          rw [h2'] at HF2
          exact mb_f_f m e v [] [] Ae Av ce cv _ _ 0 _ _ w HAe HAv HF1 HF2 h1 rfl h2 rfl
      · exact mb_f_k m e v [] [] Ae Av ce cv _ _ 0 _ _ w HAe HAv HF1 HF2 h1 rfl h2
  · by_cases h2 : (freshV m v).2 = 0
    · cases h2' : (freshV m v).1 with
      | true =>
        rw [h2'] at HF2
        by_cases hv : valErr v = 0
        · obtain ⟨y, Y1, Y2⟩ := HVY h2 h2' hv
          exact mb_k_yes m e v [] y Ae Av ce cv _ _ 0 _ _ w HAe HAv HF1 HF2 h1 h2 rfl Y1 Y2
        · obtain ⟨Y1, Y2⟩ := HNO h2 h2' hv
          exact mb_k_no m e v [] [] Ae Av ce cv _ _ _ _ _ w HAe HAv HF1 HF2 h1 h2 rfl Y1 hv Y2 (HVN hv)
      | false =>
        rw [h2'] at HF2
        exact mb_k_f m e v [] [] Ae Av ce cv _ _ 0 _ _ w HAe HAv HF1 HF2 h1 h2 rfl
    · exact mb_k_k m e v [] [] Ae Av ce cv _ _ 0 _ _ w HAe HAv HF1 HF2 h1 h2
end Go.Proofs.Ytnhcjpmamgdeoaa
