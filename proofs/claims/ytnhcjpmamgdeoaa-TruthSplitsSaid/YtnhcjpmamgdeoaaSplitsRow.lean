/-
  PROVED: TruthSplits: for every input the law returns true, and each argument reads behind the call as it read before. No condition.
-/
import Derived.Test.YtnhcjpmamgdeoaaRows
import Derived.Test.YtnhcjpmamgdeoaaTrLaw2
import Derived.Test.YtnhcjpmamgdeoaaRow1
import Derived.Test.YtnhcjpmamgdeoaaRowS
namespace Go.Proofs.Ytnhcjpmamgdeoaa
set_option maxRecDepth 100000
open Go Go.ChangeShapes Go.WideShapes Go.ChangeAt Go.RowKit Go.WideMaps
open Go.ChangeMaps (open_string shut_string)

theorem splits_lifted (os : Os) (started : os.Started) (H : Type) (enc : TypeId × Value → H) :
    ReturnsInHanded {} Try.checked os 4 .any (Rows.truthSplitsSpec.pre6 enc Try.prog Try.f4 Rows.truthSplitsRow.domain false) (Rows.truthSplitsSpec.post enc Try.prog Try.f4 false true false false) := by
  refine returnsInHanded_of_change_sized (C := Try.checked) Try.own started (by kernel_rfl) Try.func4
    (ChangeSpec.witness6 (enc := enc) (C := Try.checked) false ⟨#[], #[.slice none 0 0, .slice none 0 0, .int .i64 0], []⟩ 8 (by kernel_rfl) (by kernel_rfl) (by kernel_rfl) (by kernel_rfl)) ?_
  intro W base args ds gs before hval0 hW _ hsz0 _
  have hsz : (DataW.weightsEach Try.prog (Try.f4.params.toList ++ Rows.truthSplitsSpec.plain.varTypes Try.prog) (ds ++ gs)).all (· ≤ reachBytes) = true := hsz0
  clear hsz0
  have hval : ∀ (j : Nat) t v, Try.f4.params[j]? = some t → args[j]? = some v → Value.okWide Try.prog W .any base t v := hval0
  have hW' := hW
  have hlt : ∀ p ∈ before, p.block < W.heap.size := fun p hp => hW.lt p hp
  obtain ⟨p, q, hA0, hV, rfl, _, _⟩ := hW
  have hA : DataW.TrodAll enc Try.prog W 0 (fun _ => true) true Try.f4.params.toList args.toList ds p := hA0
  rw [Try.params4] at hA hval hsz
  obtain ⟨v0, v1, v2, d0, d1, d2, p0, p1, p2, rfl, rfl, rfl, h0, h1, h2⟩ := trodAll_three hA
  obtain ⟨rfl, rfl⟩ := trodVars_none hV
  have h0k := h0
  have h1k := h1
  obtain ⟨A0, x0, c0, rfl, le0, mx0, sl0, dt0⟩ := open_nodes (hval 0 22 v0 rfl rfl) h0
  obtain ⟨A1, x1, c1, rfl, le1, mx1, sl1, dt1⟩ := open_strs (hval 1 23 v1 rfl rfl) h1
  obtain ⟨k2, rfl, rfl, rfl, wk2⟩ := open_int Try.underlying3 (hval 2 3 v2 rfl rfl) h2
  clear hA0 hval0
  have ok0 : NdOk x0 := sized_nodes hsz (j := 0) rfl (dt0.imp id fun ⟨sp, h⟩ => ⟨sp, by rw [h]; rfl⟩)
  have ok1 := sized_strs hsz (j := 1) rfl (dt1.imp id fun ⟨sp, h⟩ => ⟨sp, by rw [h]; rfl⟩)
  refine (law_splits x0 A0 c0 x1 A1 c1 k2 W le0 mx0 ok0 sl0 sl1 le1 mx1 ok1).mono fun r W' ⟨he, hb⟩ => ?_
  subst he
  refine ⟨_, rfl, _, _, _, [], p0 ++ (p1 ++ ([])), [], hW', trodAll_mk1 (shut_bool Try.underlying4 _), ?_, ?_, hb.frame _, fun h => by cases h⟩
  · exact trodAll_mk3 (Below.trod Try.laidOut nodes_rec nodes_lt h0k hb (fun x hx => hlt x (by simp [hx]))) (Below.trod Try.laidOut strs_rec strs_lt h1k hb (fun x hx => hlt x (by simp [hx]))) (shut_int Try.underlying3 wk2)
  · rfl

theorem splits_holds : Rows.TruthSplitsSaid :=
  OpenClaim.holds_of_wide 4 Try.f4 rfl rfl rfl rfl rfl rfl rfl ⟨rfl, rfl, rfl, rfl, rfl⟩ rfl rfl rfl rfl rfl (by kernel_rfl) Try.func4 (by kernel_rfl)
    (of_decide_eq_true (by kernel_rfl)) (by unfold Func.isWrapper; rw [if_neg (of_decide_eq_false (by kernel_rfl))]; exact ⟨rfl, rfl⟩)
    (fun os started H enc _ => splits_lifted os started H enc)
#print axioms splits_holds
end Go.Proofs.Ytnhcjpmamgdeoaa
