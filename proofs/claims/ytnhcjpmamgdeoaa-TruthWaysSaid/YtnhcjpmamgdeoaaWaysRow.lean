/-
  PROVED: TruthWays: for every input the law returns true, and each argument reads behind the call as it read before. No condition.
-/
import Derived.Test.YtnhcjpmamgdeoaaRows
import Derived.Test.YtnhcjpmamgdeoaaTrW
import Derived.Test.YtnhcjpmamgdeoaaRow1
import Derived.Test.YtnhcjpmamgdeoaaRowS
namespace Go.Proofs.Ytnhcjpmamgdeoaa
set_option maxRecDepth 100000
open Go Go.ChangeShapes Go.WideShapes Go.ChangeAt Go.RowKit Go.WideMaps
open Go.ChangeMaps (open_string shut_string)

theorem ways_lifted (os : Os) (started : os.Started) (H : Type) (enc : TypeId × Value → H) :
    ReturnsInHanded {} Try.checked os 3 .any (Rows.truthWaysSpec.pre6 enc Try.prog Try.f3 Rows.truthWaysRow.domain false) (Rows.truthWaysSpec.post enc Try.prog Try.f3 false true false false) := by
  refine returnsInHanded_of_change_sized (C := Try.checked) Try.own started (by kernel_rfl) Try.func3
    (ChangeSpec.witness6 (enc := enc) (C := Try.checked) false ⟨#[], #[.slice none 0 0, .slice none 0 0], []⟩ 8 (by kernel_rfl) (by kernel_rfl) (by kernel_rfl) (by kernel_rfl)) ?_
  intro W base args ds gs before hval0 hW _ hsz0 _
  have hsz : (DataW.weightsEach Try.prog (Try.f3.params.toList ++ Rows.truthWaysSpec.plain.varTypes Try.prog) (ds ++ gs)).all (· ≤ reachBytes) = true := hsz0
  clear hsz0
  have hval : ∀ (j : Nat) t v, Try.f3.params[j]? = some t → args[j]? = some v → Value.okWide Try.prog W .any base t v := hval0
  have hW' := hW
  have hlt : ∀ p ∈ before, p.block < W.heap.size := fun p hp => hW.lt p hp
  obtain ⟨p, q, hA0, hV, rfl, _, _⟩ := hW
  have hA : DataW.TrodAll enc Try.prog W 0 (fun _ => true) true Try.f3.params.toList args.toList ds p := hA0
  rw [Try.params3] at hA hval hsz
  obtain ⟨v0, v1, d0, d1, p0, p1, rfl, rfl, rfl, h0, h1⟩ := trodAll_two hA
  obtain ⟨rfl, rfl⟩ := trodVars_none hV
  have h0k := h0
  have h1k := h1
  obtain ⟨A0, x0, c0, rfl, le0, mx0, sl0, dt0⟩ := open_nodes (hval 0 22 v0 rfl rfl) h0
  obtain ⟨A1, x1, c1, rfl, le1, mx1, sl1, dt1⟩ := open_strs (hval 1 23 v1 rfl rfl) h1
  clear hA0 hval0
  have ok0 : NdOk x0 := sized_nodes hsz (j := 0) rfl (dt0.imp id fun ⟨sp, h⟩ => ⟨sp, by rw [h]; rfl⟩)
  have ok1 := sized_strs hsz (j := 1) rfl (dt1.imp id fun ⟨sp, h⟩ => ⟨sp, by rw [h]; rfl⟩)
  refine (law_ways x0 A0 c0 x1 A1 c1 W le0 mx0 ok0 sl0 sl1 le1 mx1).mono fun r W' ⟨he, hb⟩ => ?_
  subst he
  refine ⟨_, rfl, _, _, _, [], p0 ++ (p1), [], hW', trodAll_mk1 (shut_bool Try.underlying4 _), ?_, ?_, hb.frame _, fun h => by cases h⟩
  · exact trodAll_mk2 (Below.trod Try.laidOut nodes_rec nodes_lt h0k hb (fun x hx => hlt x (by simp [hx]))) (Below.trod Try.laidOut strs_rec strs_lt h1k hb (fun x hx => hlt x (by simp [hx])))
  · rfl

theorem ways_holds : Rows.TruthWaysSaid :=
  OpenClaim.holds_of_wide 3 Try.f3 rfl rfl rfl rfl rfl rfl rfl ⟨rfl, rfl, rfl, rfl, rfl⟩ rfl rfl rfl rfl rfl (by kernel_rfl) Try.func3 (by kernel_rfl)
    (of_decide_eq_true (by kernel_rfl)) (by unfold Func.isWrapper; rw [if_neg (of_decide_eq_false (by kernel_rfl))]; exact ⟨rfl, rfl⟩)
    (fun os started H enc _ => ways_lifted os started H enc)
#print axioms ways_holds
end Go.Proofs.Ytnhcjpmamgdeoaa
