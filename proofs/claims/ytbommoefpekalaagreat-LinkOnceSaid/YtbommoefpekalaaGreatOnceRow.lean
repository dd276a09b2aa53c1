/-
  PROVED: LinkOnce: for every input the law returns true, and each argument reads behind the call as it read before. No condition.
-/
import Derived.Test.YtbommoefpekalaaGreatRows
import Derived.Test.YtbommoefpekalaaGreatLawOnce
import Derived.Test.YtbommoefpekalaaGreatRowP
namespace Go.Proofs.YtbommoefpekalaaGreat
open Go.ChangeShapes Go.WideShapes Go.ChangeAt Go.RowKit Go.WideMaps

set_option maxRecDepth 100000 in
theorem once_lifted (os : Os) (started : os.Started) (H : Type) (enc : TypeId × Value → H) :
    ReturnsInHanded {} Tryz.checked os 3 .any (Rows.linkOnceSpec.pre6 enc Tryz.prog Tryz.f3 Rows.linkOnceRow.domain false) (Rows.linkOnceSpec.post enc Tryz.prog Tryz.f3 false true false false) := by
  refine returnsInHanded_of_change_sized (C := Tryz.checked) Tryz.own started (by kernel_rfl) Tryz.func3
    (ChangeSpec.witness6 (enc := enc) (C := Tryz.checked) false ⟨#[], #[.agg #[.string ByteArray.empty, .bool false, .int .i64 0, .string ByteArray.empty, .string ByteArray.empty, .string ByteArray.empty, .int .i64 0, .string ByteArray.empty, .string ByteArray.empty, .string ByteArray.empty, .int .i64 0, .string ByteArray.empty, .string ByteArray.empty, .string ByteArray.empty, .slice none 0 0], .agg #[.string ByteArray.empty, .string ByteArray.empty], .agg #[.string ByteArray.empty, .string ByteArray.empty], .agg #[.string ByteArray.empty, .string ByteArray.empty]], []⟩ 8 (by kernel_rfl) (by kernel_rfl) (by kernel_rfl) (by kernel_rfl)) ?_
  intro W base args ds gs before hval0 hW _ hsz0 _
  have hsz : (DataW.weightsEach Tryz.prog (Tryz.f3.params.toList ++ Rows.linkOnceSpec.plain.varTypes Tryz.prog) (ds ++ gs)).all (· ≤ reachBytes) = true := hsz0
  clear hsz0
  have hval : ∀ (j : Nat) t v, Tryz.f3.params[j]? = some t → args[j]? = some v → Value.okWide Tryz.prog W .any base t v := hval0
  have hW' := hW
  have hlt : ∀ p ∈ before, p.block < W.heap.size := fun p hp => hW.lt p hp
  obtain ⟨p, q, hA0, hV, rfl, _, _⟩ := hW
  have hA : DataW.TrodAll enc Tryz.prog W 0 (fun _ => true) true Tryz.f3.params.toList args.toList ds p := hA0
  rw [Tryz.params3] at hA hval hsz
  obtain ⟨v0, v1, v2, v3, d0, d1, d2, d3, p0, p1, p2, p3, rfl, rfl, rfl, h0, h1, h2, h3⟩ := trodAll_four hA
  obtain ⟨rfl, rfl⟩ := trodVars_none hV
  have h0k := h0
  have h1k := h1
  have h2k := h2
  have h3k := h3
  obtain ⟨po, cs, A, c, rfl, hR⟩ := open_policy (hval 0 28 v0 rfl rfl) h0
  obtain ⟨u1, rfl, rfl⟩ := open_uid (hval 1 23 v1 rfl rfl) h1
  obtain ⟨u2, rfl, rfl⟩ := open_uid (hval 2 23 v2 rfl rfl) h2
  obtain ⟨u3, rfl, rfl⟩ := open_uid (hval 3 23 v3 rfl rfl) h3
  clear hA0 hval0
  have hz := hR.sized (sized_at hsz (j := 0) rfl rfl)
  have hu1 := ud_weights (H := H) (sized_at hsz (j := 1) rfl rfl)
  have hu2 := ud_weights (H := H) (sized_at hsz (j := 2) rfl rfl)
  have hu3 := ud_weights (H := H) (sized_at hsz (j := 3) rfl rfl)
  refine (law_once po cs A c u1 u2 u3 W hR.same hz.1 hz.2 hR.le hR.max hu1 hu2 hu3).mono fun r W' ⟨he, hb⟩ => ?_
  subst he
  refine ⟨_, rfl, _, _, _, [], p0 ++ (p1 ++ (p2 ++ p3)), [], hW', trodAll_mk1 (shut_bool Tryz.underlying4 _), ?_, ?_, hb.frame _, fun h => by cases h⟩
  · exact trodAll_mk4 (Below.trod Tryz.laidOut policy_rec policy_lt h0k hb (fun x hx => hlt x (by simp [hx]))) (Below.trod Tryz.laidOut uid_rec uid_lt h1k hb (fun x hx => hlt x (by simp [hx]))) (Below.trod Tryz.laidOut uid_rec uid_lt h2k hb (fun x hx => hlt x (by simp [hx]))) (Below.trod Tryz.laidOut uid_rec uid_lt h3k hb (fun x hx => hlt x (by simp [hx])))
  · rfl

theorem once_holds : Rows.LinkOnceSaid :=
  OpenClaim.holds_of_wide 3 Tryz.f3 rfl rfl rfl rfl rfl rfl rfl ⟨rfl, rfl, rfl, rfl, rfl⟩ rfl rfl rfl rfl rfl (by kernel_rfl) Tryz.func3 (by kernel_rfl)
    (of_decide_eq_true (by kernel_rfl)) (by unfold Func.isWrapper; rw [if_neg (of_decide_eq_false (by kernel_rfl))]; exact ⟨rfl, rfl⟩)
    (fun os started H enc _ => once_lifted os started H enc)
#print axioms once_holds
end Go.Proofs.YtbommoefpekalaaGreat
