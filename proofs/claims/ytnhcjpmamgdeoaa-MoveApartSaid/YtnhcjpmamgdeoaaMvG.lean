/-
  THE WALKS: move.Expr, move.Fresh.
-/
import Derived.Test.YtnhcjpmamgdeoaaMvF
namespace Go.Proofs.Ytnhcjpmamgdeoaa
open Go.RowKit

def exprM (m : Mv) (e : List Nd) : List Nd × Int :=
  if mvErr m ≠ 0 then ([], mvErr m) else if treeErr e ≠ 0 then ([], treeErr e) else ((movE m e).getD [], if (movE m e).isSome = true then 0 else 6)
set_option maxRecDepth 100000 in
set_option maxHeartbeats 1600000 in
theorem move_Expr (m : Mv) (e : List Nd) (A : Option Addr) (c : Nat) (w : World) (hz : MvZ m) (hc : e.length ≤ c) (hcm : c ≤ 9223372036854775807) (hok : NdOk e) (hsl : NdSl w w.heap.size A e) :
    Calls Try.prog 20 #[.agg #[.int .i64 m.what, .string m.fr, .string m.to_], .slice A e.length c] w fun r w' => NdsBack w r w' (exprM m e).1 (exprM m e).2 := by
  have HC := Lib.hid (fun W => move_Check m W hz)
  have HT := Lib.hid (fun W (hW : Below w.heap.size w W) => tree_Check e A c W hc hcm hok ((hsl.below hW).more hW.size))
  by_cases hm : mvErr m = 0
  · have tm : (mvErr m != 0) = false := by simp [hm]
    by_cases he : treeErr e = 0
    · have te : (treeErr e != 0) = false := by simp [he]
      have HV : Hid (exprM m e = ((movE m e).getD [], if (movE m e).isSome = true then 0 else 6)) := by show _ = _; unfold exprM; rw [if_neg (by simp [hm]), if_neg (by simp [he])]
      have hex := (tree_iff e).1 he
      have HA := Lib.hid (fun W (hW : Below w.heap.size w W) => mover_all m false e (mpart_all hm (fun h => by cases h) e.length e (.inl ⟨rfl, _, hex.2⟩) hex.1 (Nat.le_refl _)) A c W hc hcm ((hsl.below hW).more hW.size))
      clear hm he hex hsl hok
      go_enter Try.func20, Try.ntmps20
      go_wp2_with fail
      refine (HC.out _).mono ?_
      rintro r w1 ⟨rfl, hb1⟩
      have hw1 : Below w.heap.size w w1 := Below.trans (by (repeat (first | assumption | exact Below.refl _ _ | apply Below.drew | apply below_drewN | (refine Below.alloc ?_ (by first | exact Nat.le_refl _ | omega | (simp; done) | (simp; omega)) _)))) (hb1.mono (by simp))
      obtain ⟨hcc, -⟩ := bcell hb1
      have hs1 : w.heap.size < w1.heap.size := by have := hb1.size; simp at this; omega
      clear hb1
      go_wp2_with fail
      refine (HT.out _ hw1).mono ?_
      rintro r w2 ⟨rfl, hb2⟩
      have hw2 := hw1.trans (hb2.mono hw1.size)
      obtain ⟨hcc2, -⟩ := bcell hb2
      clear hb2
      go_wp2_with fail
      refine (HA.out _ hw2).mono ?_
      rintro r w3 ⟨A3, c3, rfl, h31, h32, h33, hb3⟩
      have H33 := Lib.hid h33
      have H31 := Lib.hid h31
      have HVV : Hid ((exprM m e).1 = (movGo m false e.length e).getD [] ∧ (exprM m e).2 = if (movGo m false e.length e).isSome = true then 0 else 6) := by rw [HV.out]; exact ⟨rfl, rfl⟩
      clear h33 h31 HA HV hcc hcc2
      generalize (movGo m false e.length e).getD [] = ys at *
      generalize (if (movGo m false e.length e).isSome = true then (0 : Int) else 6) = kk at *
      go_wp2_with fail
      go_ret2
      rw [HVV.out.1, HVV.out.2]
      exact ⟨A3, c3, rfl, H31.out, h32, H33.out, hw2.trans (hb3.mono hw2.size)⟩
    · have te : (treeErr e != 0) = true := by simp [he]
      have HV : Hid (exprM m e = ([], treeErr e)) := by show _ = _; unfold exprM; rw [if_neg (by simp [hm]), if_pos he]
      clear hm he hsl hok
      generalize treeErr e = k at HT te HV
      go_enter Try.func20, Try.ntmps20
      go_wp2_with fail
      refine (HC.out _).mono ?_
      rintro r w1 ⟨rfl, hb1⟩
      have hw1 : Below w.heap.size w w1 := Below.trans (by (repeat (first | assumption | exact Below.refl _ _ | apply Below.drew | apply below_drewN | (refine Below.alloc ?_ (by first | exact Nat.le_refl _ | omega | (simp; done) | (simp; omega)) _)))) (hb1.mono (by simp))
      clear hb1
      go_wp2_with fail
      refine (HT.out _ hw1).mono ?_
      rintro r w2 ⟨rfl, hb2⟩
      have hw2 := hw1.trans (hb2.mono hw1.size)
      clear hb2
      go_wp2_with fail
      go_ret2
      rw [HV.out]
      exact NdsBack.none hw2
  · have tm : (mvErr m != 0) = true := by simp [hm]
    have HV : Hid (exprM m e = ([], mvErr m)) := by show _ = _; unfold exprM; rw [if_pos hm]
    clear hm hsl hok
    generalize mvErr m = k at HC tm HV
    go_enter Try.func20, Try.ntmps20
    go_wp2_with fail
    refine (HC.out _).mono ?_
    rintro r w1 ⟨rfl, hb1⟩
    have hw1 : Below w.heap.size w w1 := Below.trans (by (repeat (first | assumption | exact Below.refl _ _ | apply Below.drew | apply below_drewN | (refine Below.alloc ?_ (by first | exact Nat.le_refl _ | omega | (simp; done) | (simp; omega)) _)))) (hb1.mono (by simp))
    clear hb1
    go_wp2_with fail
    go_ret2
    rw [HV.out]
    exact NdsBack.none hw1
end Go.Proofs.Ytnhcjpmamgdeoaa
