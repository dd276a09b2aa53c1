/-
  PROVED: MoveApart: for every input the law returns true, and each argument reads behind the call as it read before. No condition.
-/
import Derived.Test.YtnhcjpmamgdeoaaRows
import Derived.Test.YtnhcjpmamgdeoaaLawApart
import Derived.Test.YtnhcjpmamgdeoaaRowMv
namespace Go.Proofs.Ytnhcjpmamgdeoaa
set_option maxRecDepth 100000
open Go Go.ChangeShapes Go.WideShapes Go.ChangeAt Go.RowKit Go.WideMaps
open Go.ChangeMaps (open_string shut_string)

theorem apart_lifted (os : Os) (started : os.Started) (H : Type) (enc : TypeId × Value → H) :
    ReturnsInHanded {} Try.checked os 6 .any (Rows.moveApartSpec.pre6 enc Try.prog Try.f6 Rows.moveApartRow.domain false) (Rows.moveApartSpec.post enc Try.prog Try.f6 false true false false) := by
  refine returnsInHanded_of_change_sized (C := Try.checked) Try.own started (by kernel_rfl) Try.func6
    (ChangeSpec.witness6 (enc := enc) (C := Try.checked) false ⟨#[], #[.agg #[.int .i64 0, .string ByteArray.empty, .string ByteArray.empty], .agg #[.int .i64 0, .string ByteArray.empty, .string ByteArray.empty], .slice none 0 0], []⟩ 8 (by kernel_rfl) (by kernel_rfl) (by kernel_rfl) (by kernel_rfl)) ?_
  intro W base args ds gs before hval0 hW _ hsz0 _
  have hsz : (DataW.weightsEach Try.prog (Try.f6.params.toList ++ Rows.moveApartSpec.plain.varTypes Try.prog) (ds ++ gs)).all (· ≤ reachBytes) = true := hsz0
  clear hsz0
  have hval : ∀ (j : Nat) t v, Try.f6.params[j]? = some t → args[j]? = some v → Value.okWide Try.prog W .any base t v := hval0
  have hW' := hW
  have hlt : ∀ p ∈ before, p.block < W.heap.size := fun p hp => hW.lt p hp
  obtain ⟨p, q, hA0, hV, rfl, _, _⟩ := hW
  have hA : DataW.TrodAll enc Try.prog W 0 (fun _ => true) true Try.f6.params.toList args.toList ds p := hA0
  rw [Try.params6] at hA hval hsz
  obtain ⟨v0, v1, v2, d0, d1, d2, p0, p1, p2, rfl, rfl, rfl, h0, h1, h2⟩ := trodAll_three hA
  obtain ⟨rfl, rfl⟩ := trodVars_none hV
  have h0k := h0
  have h1k := h1
  have h2k := h2
  obtain ⟨m0, rfl, rfl⟩ := open_move (hval 0 51 v0 rfl rfl) h0
  obtain ⟨m1, rfl, rfl⟩ := open_move (hval 1 51 v1 rfl rfl) h1
  obtain ⟨A2, x2, c2, rfl, le2, mx2, sl2, dt2⟩ := open_nodes (hval 2 22 v2 rfl rfl) h2
  clear hA0 hval0
  have hm0 := mv_weights (H := H) (sized_at hsz (j := 0) rfl rfl)
  have hm1 := mv_weights (H := H) (sized_at hsz (j := 1) rfl rfl)
  have ok2 : NdOk x2 := sized_nodes hsz (j := 2) rfl (dt2.imp id fun ⟨sp, h⟩ => ⟨sp, by rw [h]; rfl⟩)
  refine (law_apart m0 m1 x2 A2 c2 W hm0 hm1 le2 mx2 ok2 sl2).mono fun r W' ⟨he, hb⟩ => ?_
  subst he
  refine ⟨_, rfl, _, _, _, [], p0 ++ (p1 ++ (p2)), [], hW', trodAll_mk1 (shut_bool Try.underlying4 _), ?_, ?_, hb.frame _, fun h => by cases h⟩
  · exact trodAll_mk3 (Below.trod Try.laidOut move_rec move_lt h0k hb (fun x hx => hlt x (by simp [hx]))) (Below.trod Try.laidOut move_rec move_lt h1k hb (fun x hx => hlt x (by simp [hx]))) (Below.trod Try.laidOut nodes_rec nodes_lt h2k hb (fun x hx => hlt x (by simp [hx])))
  · rfl

theorem apart_holds : Rows.MoveApartSaid :=
  OpenClaim.holds_of_wide 6 Try.f6 rfl rfl rfl rfl rfl rfl rfl ⟨rfl, rfl, rfl, rfl, rfl⟩ rfl rfl rfl rfl rfl (by kernel_rfl) Try.func6 (by kernel_rfl)
    (of_decide_eq_true (by kernel_rfl)) (by unfold Func.isWrapper; rw [if_neg (of_decide_eq_false (by kernel_rfl))]; exact ⟨rfl, rfl⟩)
    (fun os started H enc _ => apart_lifted os started H enc)
#print axioms apart_holds
end Go.Proofs.Ytnhcjpmamgdeoaa
