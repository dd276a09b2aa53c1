/-
  THE WALKS: small functions of the laws on trees.
-/
import Derived.Test.YtcghjnpllobdmaaDoorTree5
namespace Go.Proofs.YtcghjnpllobdmaaDoor
open Go.RowKit

theorem new_nodes (W : World) (t : TypeId) (xs : List Nd) (cs : Array Value) (h : cs = (flat xs).toArray) : NdSl (W.alloc (.cells cs t)) (W.heap.size + 1) (some ⟨W.heap.size, 0, none⟩) xs :=
  NdSl.of_flat (by omega) fun j u hu => by rw [World.cell?_alloc_new, h, List.getElem?_toArray, hu]

theorem ndok_small (xs : List Nd) (h : (xs.all fun x => decide (x.s.size ≤ 140737488351232) && decide (x.t.size ≤ 140737488351232)) = true) : NdOk xs := fun x hx => by
  have := List.all_eq_true.1 h x hx
  simpa using this

set_option maxHeartbeats 800000 in
theorem law_name (s : ByteArray) (w : World) :
    Calls Tryd.prog 15 #[.string s] w fun r w' => r = .returned (.agg #[.int .i64 8, .int .i64 0, .string s, .string ⟨#[]⟩]) ∧ Below w.heap.size w w' := by
  go_enter Tryd.func15, Tryd.ntmps15
  go_wp2
  exact bodyPost_ret (v := .agg #[.int .i64 8, .int .i64 0, .string s, .string ⟨#[]⟩]) (by simp [results, Tryd.results15, go_sem]) rfl ⟨rfl, by (repeat (first | assumption | exact Below.refl _ _ | apply Below.drew | apply below_drewN | (refine Below.alloc ?_ (by first | exact Nat.le_refl _ | omega | (simp; done) | (simp; omega)) _)))⟩

set_option maxRecDepth 100000 in
set_option maxHeartbeats 1600000 in
theorem ref_Parts (op n : Int) (s t : ByteArray) (w : World) :
    Calls Tryd.prog 34 #[.agg #[.int .i64 op, .int .i64 n, .string s, .string t]] w fun e w' => e = .returned (.int .i64 (ndParts ⟨op, n, s, t⟩)) ∧ Below w.heap.size w w' := by
  go_enter Tryd.func34, Tryd.ntmps34
  go_wp2
  all_goals
    go_ret
    refine ⟨ret_int ?_, (Below.refl _ _).alloc (Nat.le_refl _) _⟩
    try simp only [beq_iff_eq, beq_eq_false_iff_ne] at *
    simp only [ndParts]
    repeat' split
    all_goals omega

end Go.Proofs.YtcghjnpllobdmaaDoor
