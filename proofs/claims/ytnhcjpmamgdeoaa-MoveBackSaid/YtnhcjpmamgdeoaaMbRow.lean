/-
  PROVED: MoveBack: for every input the law returns true, and each argument reads behind the call as it read before. No condition.
-/
import Derived.Test.YtnhcjpmamgdeoaaRows
import Derived.Test.YtnhcjpmamgdeoaaLawMb
import Derived.Test.YtnhcjpmamgdeoaaRowMv
namespace Go.Proofs.Ytnhcjpmamgdeoaa
set_option maxRecDepth 100000
open Go Go.ChangeShapes Go.WideShapes Go.ChangeAt Go.RowKit Go.WideMaps
open Go.ChangeMaps (open_string shut_string)

theorem mback_lifted (os : Os) (started : os.Started) (H : Type) (enc : TypeId × Value → H) :
    ReturnsInHanded {} Try.checked os 7 .any (Rows.moveBackSpec.pre6 enc Try.prog Try.f7 Rows.moveBackRow.domain false) (Rows.moveBackSpec.post enc Try.prog Try.f7 false true false false) := by
  refine returnsInHanded_of_change_sized (C := Try.checked) Try.own started (by kernel_rfl) Try.func7
    (ChangeSpec.witness6 (enc := enc) (C := Try.checked) false ⟨#[], #[.agg #[.int .i64 0, .string ByteArray.empty, .string ByteArray.empty], .slice none 0 0, .slice none 0 0], []⟩ 8 (by kernel_rfl) (by kernel_rfl) (by kernel_rfl) (by kernel_rfl)) ?_
  intro W base args ds gs before hval0 hW _ hsz0 _
  have hsz : (DataW.weightsEach Try.prog (Try.f7.params.toList ++ Rows.moveBackSpec.plain.varTypes Try.prog) (ds ++ gs)).all (· ≤ reachBytes) = true := hsz0
  clear hsz0
  have hval : ∀ (j : Nat) t v, Try.f7.params[j]? = some t → args[j]? = some v → Value.okWide Try.prog W .any base t v := hval0
  have hW' := hW
  have hlt : ∀ p ∈ before, p.block < W.heap.size := fun p hp => hW.lt p hp
  obtain ⟨p, q, hA0, hV, rfl, _, _⟩ := hW
  have hA : DataW.TrodAll enc Try.prog W 0 (fun _ => true) true Try.f7.params.toList args.toList ds p := hA0
  rw [Try.params7] at hA hval hsz
  obtain ⟨v0, v1, v2, d0, d1, d2, p0, p1, p2, rfl, rfl, rfl, h0, h1, h2⟩ := trodAll_three hA
  obtain ⟨rfl, rfl⟩ := trodVars_none hV
  have h0k := h0
  have h1k := h1
  have h2k := h2
  obtain ⟨m0, rfl, rfl⟩ := open_move (hval 0 51 v0 rfl rfl) h0
  obtain ⟨A1, x1, c1, rfl, le1, mx1, sl1, dt1⟩ := open_nodes (hval 1 22 v1 rfl rfl) h1
  obtain ⟨A2, x2, c2, rfl, le2, mx2, sl2, dt2⟩ := open_nodes (hval 2 22 v2 rfl rfl) h2
  clear hA0 hval0
  have hm0 := mv_weights (H := H) (sized_at hsz (j := 0) rfl rfl)
  have ok1 : NdOk x1 := sized_nodes hsz (j := 1) rfl (dt1.imp id fun ⟨sp, h⟩ => ⟨sp, by rw [h]; rfl⟩)
  have ok2 : NdOk x2 := sized_nodes hsz (j := 2) rfl (dt2.imp id fun ⟨sp, h⟩ => ⟨sp, by rw [h]; rfl⟩)
  refine (law_mb m0 x1 x2 A1 A2 c1 c2 W hm0 le1 mx1 ok1 sl1 le2 mx2 ok2 sl2).mono fun r W' ⟨he, hb⟩ => ?_
  subst he
  refine ⟨_, rfl, _, _, _, [], p0 ++ (p1 ++ (p2)), [], hW', trodAll_mk1 (shut_bool Try.underlying4 _), ?_, ?_, hb.frame _, fun h => by cases h⟩
  · exact trodAll_mk3 (Below.trod Try.laidOut move_rec move_lt h0k hb (fun x hx => hlt x (by simp [hx]))) (Below.trod Try.laidOut nodes_rec nodes_lt h1k hb (fun x hx => hlt x (by simp [hx]))) (Below.trod Try.laidOut nodes_rec nodes_lt h2k hb (fun x hx => hlt x (by simp [hx])))
  · rfl

theorem mback_holds : Rows.MoveBackSaid :=
  OpenClaim.holds_of_wide 7 Try.f7 rfl rfl rfl rfl rfl rfl rfl ⟨rfl, rfl, rfl, rfl, rfl⟩ rfl rfl rfl rfl rfl (by kernel_rfl) Try.func7 (by kernel_rfl)
    (of_decide_eq_true (by kernel_rfl)) (by unfold Func.isWrapper; rw [if_neg (of_decide_eq_false (by kernel_rfl))]; exact ⟨rfl, rfl⟩)
    (fun os started H enc _ => mback_lifted os started H enc)
#print axioms mback_holds
end Go.Proofs.Ytnhcjpmamgdeoaa
