/-
  PROVED: TreeGone: for every input the law returns true, and each argument reads behind the call as it read before. No condition.
-/
import Derived.Test.YtcghjnpllobdmaaRows
import Derived.Test.YtcghjnpllobdmaaLaw3
import Derived.Test.YtcghjnpllobdmaaRow1
namespace Go.Proofs.Ytcghjnpllobdmaa
open Go.ChangeShapes Go.WideShapes Go.ChangeAt Go.RowKit Go.WideMaps
open Go.ChangeMaps (open_string shut_string)

set_option maxRecDepth 100000 in
theorem gone_lifted (os : Os) (started : os.Started) (H : Type) (enc : TypeId × Value → H) :
    ReturnsInHanded {} Try.checked os 4 .any (Rows.treeGoneSpec.pre6 enc Try.prog Try.f4 Rows.treeGoneRow.domain false) (Rows.treeGoneSpec.post enc Try.prog Try.f4 false true false false) := by
  refine returnsInHanded_of_change_sized (C := Try.checked) Try.own started (by kernel_rfl) Try.func4
    (ChangeSpec.witness6 (enc := enc) (C := Try.checked) false ⟨#[], #[.slice none 0 0, .string ByteArray.empty, .slice none 0 0], []⟩ 8 (by kernel_rfl) (by kernel_rfl) (by kernel_rfl) (by kernel_rfl)) ?_
  intro W base args ds gs before hval0 hW _ hsz0 _
  have hsz : (DataW.weightsEach Try.prog (Try.f4.params.toList ++ Rows.treeGoneSpec.plain.varTypes Try.prog) (ds ++ gs)).all (· ≤ reachBytes) = true := hsz0
  clear hsz0
  have hval : ∀ (j : Nat) t v, Try.f4.params[j]? = some t → args[j]? = some v → Value.okWide Try.prog W .any base t v := hval0
  have hW' := hW
  have hlt : ∀ p ∈ before, p.block < W.heap.size := fun p hp => hW.lt p hp
  obtain ⟨p, q, hA0, hV, rfl, _, _⟩ := hW
  have hA : DataW.TrodAll enc Try.prog W 0 (fun _ => true) true Try.f4.params.toList args.toList ds p := hA0
  rw [Try.params4] at hA hval hsz
  obtain ⟨v0, v1, v2, d0, d1, d2, p0, p1, p2, rfl, rfl, rfl, h0, h1, h2⟩ := trodAll_three hA
  obtain ⟨rfl, rfl⟩ := trodVars_none hV
  have h0k := h0
  have h1k := h1
  have h2k := h2
  obtain ⟨A, e, c, rfl, hec, hcm, hse, hde⟩ := open_nodes (hval 0 22 v0 rfl rfl) h0
  obtain ⟨s, rfl, rfl, rfl, ws⟩ := open_string Try.underlying9 (hval 1 9 v1 rfl rfl) h1
  obtain ⟨Av, v, cv, rfl, hvc, hvm, hsv, hdv⟩ := open_nodes (hval 2 22 v2 rfl rfl) h2
  clear hA0 hval0
  have hok : NdOk e := sized_nodes hsz (j := 0) rfl (hde.imp id fun ⟨sp, h⟩ => ⟨sp, by rw [h]; rfl⟩)
  have hokv : NdOk v := sized_nodes hsz (j := 2) rfl (hdv.imp id fun ⟨sp, h⟩ => ⟨sp, by rw [h]; rfl⟩)
  refine (law_gone e v s A Av c cv W hec hcm hok hse hvc hvm hokv hsv).mono fun r W' ⟨he, hb⟩ => ?_
  subst he
  refine ⟨_, rfl, _, _, _, [], p0 ++ ([] ++ p2), [], hW', trodAll_mk1 (shut_bool Try.underlying4 _), ?_, ?_, hb.frame _, fun h => by cases h⟩
  · exact trodAll_mk3 (Below.trod Try.laidOut nodes_rec nodes_lt h0k hb (fun x hx => hlt x (by simp [hx]))) (shut_string Try.underlying9 ws) (Below.trod Try.laidOut nodes_rec nodes_lt h2k hb (fun x hx => hlt x (by simp [hx])))
  · rfl

theorem gone_holds : Rows.TreeGoneSaid :=
  OpenClaim.holds_of_wide 4 Try.f4 rfl rfl rfl rfl rfl rfl rfl ⟨rfl, rfl, rfl, rfl, rfl⟩ rfl rfl rfl rfl rfl (by kernel_rfl) Try.func4 (by kernel_rfl)
    (of_decide_eq_true (by kernel_rfl)) (by unfold Func.isWrapper; rw [if_neg (of_decide_eq_false (by kernel_rfl))]; exact ⟨rfl, rfl⟩)
    (fun os started H enc _ => gone_lifted os started H enc)
#print axioms gone_holds
end Go.Proofs.Ytcghjnpllobdmaa
