/-
  THE WALKS: move.Value; the law's back, the reference's MoveFault; values that are none.
-/
import Derived.Test.YtnhcjpmamgdeoaaGreatDoorMvM
import Derived.Test.YtnhcjpmamgdeoaaGreatDoorRef18
namespace Go.Proofs.YtnhcjpmamgdeoaaGreatDoor
open Go.RowKit

def valueM (m : Mv) (e : List Nd) : List Nd × Int :=
  if mvErr m ≠ 0 then ([], mvErr m) else if valErr e ≠ 0 then ([], valErr e) else ((movV m e).getD [], if (movV m e).isSome = true then 0 else 6)
set_option maxRecDepth 100000 in
set_option maxHeartbeats 1600000 in
theorem move_Value (m : Mv) (e : List Nd) (A : Option Addr) (c : Nat) (w : World) (hz : MvZ m) (hc : e.length ≤ c) (hcm : c ≤ 9223372036854775807) (hok : NdOk e) (hsl : NdSl w w.heap.size A e) :
    Calls Tryz.prog 12 #[.agg #[.int .i64 m.what, .string m.fr, .string m.to_], .slice A e.length c] w fun r w' => NdsBack w r w' (valueM m e).1 (valueM m e).2 := by
  have HC := Lib.hid (fun W => move_Check m W hz)
  have HT := Lib.hid (fun W (hW : Below w.heap.size w W) => val_Check e A c W hc hcm hok ((hsl.below hW).more hW.size))
  by_cases hm : mvErr m = 0
  · have tm : (mvErr m != 0) = false := by simp [hm]
    by_cases he : valErr e = 0
    · have te : (valErr e != 0) = false := by simp [he]
      have HV : Hid (valueM m e = ((movV m e).getD [], if (movV m e).isSome = true then 0 else 6)) := by show _ = _; unfold valueM; rw [if_neg (by simp [hm]), if_neg (by simp [he])]
      have hex := (val_iff e).1 he
      have HA := Lib.hid (fun W (hW : Below w.heap.size w W) => mover_all m true e (mpart_all hm (fun _ k e x ps hP hk h5 hv => mpart_set m hm true rfl k e x ps hP hk h5 hv) e.length e (.inr ⟨rfl, .inl hex.2⟩) hex.1 (Nat.le_refl _)) A c W hc hcm ((hsl.below hW).more hW.size))
      clear hm he hex hsl hok
      go_enter Tryz.func12, Tryz.ntmps12
      go_wp2_with fail
      refine (HC.out _).mono ?_
      rintro r w1 ⟨rfl, hb1⟩
      have hw1 : Below w.heap.size w w1 := Below.trans (by (repeat (first | assumption | exact Below.refl _ _ | apply Below.drew | apply below_drewN | (refine Below.alloc ?_ (by first | exact Nat.le_refl _ | omega | (simp; done) | (simp; omega)) _)))) (hb1.mono (by simp))
      obtain ⟨hcc, -⟩ := bcell hb1
      have hs1 : w.heap.size < w1.heap.size := by have := hb1.size; simp at this; omega
      clear hb1
      go_wp2_with fail
      refine (HT.out _ hw1).mono ?_
      rintro r w2 ⟨rfl, hb2⟩
      have hw2 := hw1.trans (hb2.mono hw1.size)
      obtain ⟨hcc2, -⟩ := bcell hb2
      clear hb2
      go_wp2_with fail
      refine (HA.out _ hw2).mono ?_
      rintro r w3 ⟨A3, c3, rfl, h31, h32, h33, hb3⟩
      have H33 := Lib.hid h33
      have H31 := Lib.hid h31
      have HVV : Hid ((valueM m e).1 = (movGo m true e.length e).getD [] ∧ (valueM m e).2 = if (movGo m true e.length e).isSome = true then 0 else 6) := by rw [HV.out]; exact ⟨rfl, rfl⟩
      clear h33 h31 HA HV hcc hcc2
      generalize (movGo m true e.length e).getD [] = ys at *
      generalize (if (movGo m true e.length e).isSome = true then (0 : Int) else 6) = kk at *
      go_wp2_with fail
      go_ret2
      rw [HVV.out.1, HVV.out.2]
      exact ⟨A3, c3, rfl, H31.out, h32, H33.out, hw2.trans (hb3.mono hw2.size)⟩
    · have te : (valErr e != 0) = true := by simp [he]
      have HV : Hid (valueM m e = ([], valErr e)) := by show _ = _; unfold valueM; rw [if_neg (by simp [hm]), if_pos he]
      clear hm he hsl hok
      generalize valErr e = k at HT te HV
      go_enter Tryz.func12, Tryz.ntmps12
      go_wp2_with fail
      refine (HC.out _).mono ?_
      rintro r w1 ⟨rfl, hb1⟩
      have hw1 : Below w.heap.size w w1 := Below.trans (by (repeat (first | assumption | exact Below.refl _ _ | apply Below.drew | apply below_drewN | (refine Below.alloc ?_ (by first | exact Nat.le_refl _ | omega | (simp; done) | (simp; omega)) _)))) (hb1.mono (by simp))
      clear hb1
      go_wp2_with fail
      refine (HT.out _ hw1).mono ?_
      rintro r w2 ⟨rfl, hb2⟩
      have hw2 := hw1.trans (hb2.mono hw1.size)
      clear hb2
      go_wp2_with fail
      go_ret2
      rw [HV.out]
      exact NdsBack.none hw2
  · have tm : (mvErr m != 0) = true := by simp [hm]
    have HV : Hid (valueM m e = ([], mvErr m)) := by show _ = _; unfold valueM; rw [if_pos hm]
    clear hm hsl hok
    generalize mvErr m = k at HC tm HV
    go_enter Tryz.func12, Tryz.ntmps12
    go_wp2_with fail
    refine (HC.out _).mono ?_
    rintro r w1 ⟨rfl, hb1⟩
    have hw1 : Below w.heap.size w w1 := Below.trans (by (repeat (first | assumption | exact Below.refl _ _ | apply Below.drew | apply below_drewN | (refine Below.alloc ?_ (by first | exact Nat.le_refl _ | omega | (simp; done) | (simp; omega)) _)))) (hb1.mono (by simp))
    clear hb1
    go_wp2_with fail
    go_ret2
    rw [HV.out]
    exact NdsBack.none hw1
theorem valueM_ok {m : Mv} {v x : List Nd} (hm : mvErr m = 0) (he : valErr v = 0) (h : movV m v = some x) : valueM m v = (x, 0) := by
  unfold valueM
  rw [if_neg (by simp [hm]), if_neg (by simp [he]), h]
  rfl
set_option maxRecDepth 100000 in
set_option maxHeartbeats 1600000 in
theorem r4_MoveFault (m : Mv) (w : World) (hz : MvZ m) :
    Calls Tryz.prog 8 #[.agg #[.int .i64 m.what, .string m.fr, .string m.to_]] w fun e w' => e = .returned (.int .i64 (mvErr m)) ∧ Below w.heap.size w w' := by
  obtain ⟨hz1, hz2⟩ := hz
  have HF1 := Lib.hid (fun W => r1_NameFault m.fr W hz1)
  have HF2 := Lib.hid (fun W => r1_NameFault m.to_ W hz2)
  obtain ⟨k, hk⟩ : ∃ k, mvErr m = k := ⟨_, rfl⟩
  rw [hk]
  have HK := Lib.hid hk
  clear hk hz1 hz2
  by_cases hw : m.what = 1 ∨ m.what = 2
  · have HA := Lib.hid (mvErr1 hw)
    have tt : ((m.what != 1) = false ∧ True) ∨ ((m.what != 1) = true ∧ (m.what != 2) = false) := by
      rcases hw with h | h
      · exact .inl ⟨by simp [h], trivial⟩
      · exact .inr ⟨by simp [h], by simp [h]⟩
    clear hw
    by_cases hn : nameErr m.fr.toList = 0
    · have hne : (nameErr m.fr.toList == 0) = true := by simp [hn]
      have HN : Hid (k = nameErr m.to_.toList) := by show _ = _; rw [← HK.out, HA.out, if_neg (by simp [hn])]
      clear hn
      generalize nameErr m.fr.toList = k1 at HF1 hne
      generalize nameErr m.to_.toList = k2 at HF2 HN
      rcases tt with ⟨t1, _⟩ | ⟨t1, t2⟩
      · go_enter Tryz.func8, Tryz.ntmps8
        go_wp2_with fail
        refine (HF1.out _).mono ?_
        rintro r w1 ⟨rfl, rfl⟩
        go_wp2_with fail
        refine (HF2.out _).mono ?_
        rintro r w2 ⟨rfl, rfl⟩
        go_wp2_with fail
        go_ret
        rw [HN.out]
        exact ⟨rfl, by (repeat (first | assumption | exact Below.refl _ _ | apply Below.drew | apply below_drewN | (refine Below.alloc ?_ (by first | exact Nat.le_refl _ | omega | (simp; done) | (simp; omega)) _)))⟩
      · go_enter Tryz.func8, Tryz.ntmps8
        go_wp2_with fail
        refine (HF1.out _).mono ?_
        rintro r w1 ⟨rfl, rfl⟩
        go_wp2_with fail
        refine (HF2.out _).mono ?_
        rintro r w2 ⟨rfl, rfl⟩
        go_wp2_with fail
        go_ret
        rw [HN.out]
        exact ⟨rfl, by (repeat (first | assumption | exact Below.refl _ _ | apply Below.drew | apply below_drewN | (refine Below.alloc ?_ (by first | exact Nat.le_refl _ | omega | (simp; done) | (simp; omega)) _)))⟩
    · have hne : (nameErr m.fr.toList == 0) = false := by simp [hn]
      have HN : Hid (k = nameErr m.fr.toList) := by show _ = _; rw [← HK.out, HA.out, if_pos hn]
      clear hn
      generalize nameErr m.fr.toList = k1 at HF1 hne HN
      rcases tt with ⟨t1, _⟩ | ⟨t1, t2⟩
      · go_enter Tryz.func8, Tryz.ntmps8
        go_wp2_with fail
        refine (HF1.out _).mono ?_
        rintro r w1 ⟨rfl, rfl⟩
        go_wp2_with fail
        go_ret
        rw [HN.out]
        exact ⟨rfl, by (repeat (first | assumption | exact Below.refl _ _ | apply Below.drew | apply below_drewN | (refine Below.alloc ?_ (by first | exact Nat.le_refl _ | omega | (simp; done) | (simp; omega)) _)))⟩
      · go_enter Tryz.func8, Tryz.ntmps8
        go_wp2_with fail
        refine (HF1.out _).mono ?_
        rintro r w1 ⟨rfl, rfl⟩
        go_wp2_with fail
        go_ret
        rw [HN.out]
        exact ⟨rfl, by (repeat (first | assumption | exact Below.refl _ _ | apply Below.drew | apply below_drewN | (refine Below.alloc ?_ (by first | exact Nat.le_refl _ | omega | (simp; done) | (simp; omega)) _)))⟩
  · have t1 : (m.what != 1) = true := by simp; omega
    have t2 : (m.what != 2) = true := by simp; omega
    have HN : Hid (k = 1) := by show _ = _; rw [← HK.out]; unfold mvErr; rw [if_pos (by omega)]
    clear hw
    go_enter Tryz.func8, Tryz.ntmps8
    go_wp2_with fail
    go_ret
    rw [HN.out]
    exact ⟨rfl, by (repeat (first | assumption | exact Below.refl _ _ | apply Below.drew | apply below_drewN | (refine Below.alloc ?_ (by first | exact Nat.le_refl _ | omega | (simp; done) | (simp; omega)) _)))⟩
set_option maxRecDepth 100000 in
set_option maxHeartbeats 1600000 in
theorem r4_MovedExpr_no (m : Mv) (e : List Nd) (A : Option Addr) (c : Nat) (w : World) (hz : MvZ m) (hm : mvErr m = 0) (hc : e.length ≤ c) (hcm : c ≤ 9223372036854775807) (hok : NdOk e) (hsl : NdSl w w.heap.size A e) (hv : ¬ valErr e = 0) :
    Calls Tryz.prog 9 #[.agg #[.int .i64 m.what, .string m.fr, .string m.to_], .slice A e.length c, .bool true] w fun r w' => r = .returned (.tuple #[.slice none 0 0, .int .i64 (valErr e)]) ∧ Below w.heap.size w w' := by
  have HM := Lib.hid (fun W => r4_MoveFault m W hz)
  rw [hm] at HM
  have HV := Lib.hid (fun W (hW : Below w.heap.size w W) => r1_ValueFault e A c W hc hcm hok ((hsl.below hW).more hW.size))
  have t1 : (valErr e == 0) = false := by simpa using hv
  have t2 : (valErr e != 0) = true := by simpa using hv
  clear hv hok hsl hm
  generalize valErr e = k at HV t1 t2 ⊢
  go_enter Tryz.func9, Tryz.ntmps9
  go_wp2_with fail
  refine (HM.out _).mono ?_
  rintro r w1 ⟨rfl, hb1⟩
  have hw1 : Below w.heap.size w w1 := Below.trans (by (repeat (first | assumption | exact Below.refl _ _ | apply Below.drew | apply below_drewN | (refine Below.alloc ?_ (by first | exact Nat.le_refl _ | omega | (simp; done) | (simp; omega)) _)))) (hb1.mono (by simp))
  clear hb1
  go_wp2_with fail
  refine (HV.out _ hw1).mono ?_
  rintro r w2 ⟨rfl, hb2⟩
  have hw2 := hw1.trans (hb2.mono hw1.size)
  clear hb2
  go_wp2_with fail
  go_ret2
  exact ⟨rfl, hw2⟩
end Go.Proofs.YtnhcjpmamgdeoaaGreatDoor
