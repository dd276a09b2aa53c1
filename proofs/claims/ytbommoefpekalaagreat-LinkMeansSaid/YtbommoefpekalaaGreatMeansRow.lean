/-
  PROVED: LinkMeans: for every input the law returns true, and each argument reads behind the call as it read before. No condition.
-/
import Derived.Test.YtbommoefpekalaaGreatRows
import Derived.Test.YtbommoefpekalaaGreatLawMeans2
import Derived.Test.YtbommoefpekalaaGreatRowP
namespace Go.Proofs.YtbommoefpekalaaGreat
set_option maxRecDepth 100000
open Go Go.ChangeShapes Go.WideShapes Go.ChangeAt Go.RowKit Go.WideMaps
open Go.ChangeMaps (open_string shut_string)

theorem means_lifted (os : Os) (started : os.Started) (H : Type) (enc : TypeId × Value → H) :
    ReturnsInHanded {} Tryz.checked os 4 .any (Rows.linkMeansSpec.pre6 enc Tryz.prog Tryz.f4 Rows.linkMeansRow.domain false) (Rows.linkMeansSpec.post enc Tryz.prog Tryz.f4 false true false false) := by
  refine returnsInHanded_of_change_sized (C := Tryz.checked) Tryz.own started (by kernel_rfl) Tryz.func4
    (ChangeSpec.witness6 (enc := enc) (C := Tryz.checked) false ⟨#[], #[.agg #[.string ByteArray.empty, .bool false, .int .i64 0, .string ByteArray.empty, .string ByteArray.empty, .string ByteArray.empty, .int .i64 0, .string ByteArray.empty, .string ByteArray.empty, .string ByteArray.empty, .int .i64 0, .string ByteArray.empty, .string ByteArray.empty, .string ByteArray.empty, .slice none 0 0], .agg #[.string ByteArray.empty, .string ByteArray.empty], .agg #[.string ByteArray.empty, .string ByteArray.empty]], []⟩ 8 (by kernel_rfl) (by kernel_rfl) (by kernel_rfl) (by kernel_rfl)) ?_
  intro W base args ds gs before hval0 hW _ hsz0 _
  have hsz : (DataW.weightsEach Tryz.prog (Tryz.f4.params.toList ++ Rows.linkMeansSpec.plain.varTypes Tryz.prog) (ds ++ gs)).all (· ≤ reachBytes) = true := hsz0
  clear hsz0
  have hval : ∀ (j : Nat) t v, Tryz.f4.params[j]? = some t → args[j]? = some v → Value.okWide Tryz.prog W .any base t v := hval0
  have hW' := hW
  have hlt : ∀ p ∈ before, p.block < W.heap.size := fun p hp => hW.lt p hp
  obtain ⟨p, q, hA0, hV, rfl, _, _⟩ := hW
  have hA : DataW.TrodAll enc Tryz.prog W 0 (fun _ => true) true Tryz.f4.params.toList args.toList ds p := hA0
  rw [Tryz.params4] at hA hval hsz
  obtain ⟨v0, v1, v2, d0, d1, d2, p0, p1, p2, rfl, rfl, rfl, h0, h1, h2⟩ := trodAll_three hA
  obtain ⟨rfl, rfl⟩ := trodVars_none hV
  have h0k := h0
  have h1k := h1
  have h2k := h2
  obtain ⟨q0, m0, A0, c0, rfl, R0⟩ := open_policy (hval 0 28 v0 rfl rfl) h0
  obtain ⟨u1, rfl, rfl⟩ := open_uid (hval 1 23 v1 rfl rfl) h1
  obtain ⟨u2, rfl, rfl⟩ := open_uid (hval 2 23 v2 rfl rfl) h2
  clear hA0 hval0
  have z0 := R0.sized (sized_at hsz (j := 0) rfl rfl)
  have hu1 := ud_weights (H := H) (sized_at hsz (j := 1) rfl rfl)
  have hu2 := ud_weights (H := H) (sized_at hsz (j := 2) rfl rfl)
  refine (law_means q0 m0 A0 c0 u1 u2 W R0.same z0.1 z0.2 R0.le R0.max hu1 hu2).mono fun r W' ⟨he, hb⟩ => ?_
  subst he
  refine ⟨_, rfl, _, _, _, [], p0 ++ (p1 ++ (p2)), [], hW', trodAll_mk1 (shut_bool Tryz.underlying4 _), ?_, ?_, hb.frame _, fun h => by cases h⟩
  · exact trodAll_mk3 (Below.trod Tryz.laidOut policy_rec policy_lt h0k hb (fun x hx => hlt x (by simp [hx]))) (Below.trod Tryz.laidOut uid_rec uid_lt h1k hb (fun x hx => hlt x (by simp [hx]))) (Below.trod Tryz.laidOut uid_rec uid_lt h2k hb (fun x hx => hlt x (by simp [hx])))
  · rfl

theorem means_holds : Rows.LinkMeansSaid :=
  OpenClaim.holds_of_wide 4 Tryz.f4 rfl rfl rfl rfl rfl rfl rfl ⟨rfl, rfl, rfl, rfl, rfl⟩ rfl rfl rfl rfl rfl (by kernel_rfl) Tryz.func4 (by kernel_rfl)
    (of_decide_eq_true (by kernel_rfl)) (by unfold Func.isWrapper; rw [if_neg (of_decide_eq_false (by kernel_rfl))]; exact ⟨rfl, rfl⟩)
    (fun os started H enc _ => means_lifted os started H enc)
#print axioms means_holds
end Go.Proofs.YtbommoefpekalaaGreat
