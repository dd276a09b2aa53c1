/-
  PROVED: SliceAgain: for every input the law returns true, and each argument reads behind the call as it read before. The row's listed variables tied to the program's text (the card).
-/
import Derived.Test.YtpheiojmcafolaaGreatDoorRows
import Derived.Test.YtpheiojmcafolaaGreatDoorSgRowC
import Derived.Test.YtpheiojmcafolaaGreatDoorSx01
import Derived.Test.YtpheiojmcafolaaGreatDoorSx08
import Derived.Test.YtpheiojmcafolaaGreatDoorSx23
import Derived.Test.YtpheiojmcafolaaGreatDoorSx24
import Derived.Test.YtpheiojmcafolaaGreatDoorTie
import Derived.Test.YtpheiojmcafolaaGreatDoorCards
import Derived.SevenTiedAt
namespace Go.Proofs.YtpheiojmcafolaaGreatDoor
set_option maxRecDepth 100000
open Go Go.ChangeShapes Go.WideShapes Go.ChangeAt Go.RowKit Go.WideMaps
open Go.ChangeMaps (open_string shut_string)

theorem sagain_lifted (os : Os) (started : os.Started) (H : Type) (enc : TypeId × Value → H) :
    ReturnsInHanded {} Tryz.checked os 13 .any (fun w args => (Rows.sliceAgainSpec.pre enc Tryz.prog Tryz.f13 [] false w args ∧ laidMetH Tryz.prog laidE w) ∧ sizedMet enc Tryz.prog Tryz.f13 (OpenSpec.ofChange Rows.sliceAgainSpec) false w args)
      (Rows.sliceAgainSpec.post enc Tryz.prog Tryz.f13 false true false false) := by
  refine returnsInHanded_of_change_and (C := Tryz.checked) (X := fun w _ => laidMetH Tryz.prog laidE w) (fun _ _ _ hh h => h.of_heap hh) Tryz.own started (by kernel_rfl) Tryz.func13
    (ChangeSpec.witness_at (enc := enc) (C := Tryz.checked) (os := os) (X := fun w _ => laidMetH Tryz.prog laidE w) false (laidWorld os) #[.slice none 0 0, .slice none 0 0, .agg #[.string ByteArray.empty, .string ByteArray.empty, .string ByteArray.empty, .string ByteArray.empty, .string ByteArray.empty, .string ByteArray.empty, .slice none 0 0]] 8 rfl (by kernel_rfl) (by kernel_rfl) (by kernel_rfl) (by kernel_rfl) (by kernel_rfl) (laidWorld_met os _)) ?_
  intro W base args ds gs before hval0 hW _ hsz0 hL _
  have hg := handle_of_laid hL
  have hsz : (DataW.weightsEach Tryz.prog (Tryz.f13.params.toList ++ Rows.sliceAgainSpec.plain.varTypes Tryz.prog) (ds ++ gs)).all (· ≤ reachBytes) = true := hsz0
  clear hsz0
  have hval : ∀ (j : Nat) t v, Tryz.f13.params[j]? = some t → args[j]? = some v → Value.okWide Tryz.prog W .any base t v := hval0
  have hW' := hW
  have hlt : ∀ p ∈ before, p.block < W.heap.size := fun p hp => hW.lt p hp
  obtain ⟨p, q, hA0, hV, rfl, _, _⟩ := hW
  have hA : DataW.TrodAll enc Tryz.prog W 0 (fun _ => true) true Tryz.f13.params.toList args.toList ds p := hA0
  rw [Tryz.params13] at hA hval hsz
  obtain ⟨v0, v1, v2, d0, d1, d2, p0, p1, p2, rfl, rfl, rfl, h0, h1, h2⟩ := trodAll_three hA
  obtain ⟨rfl, rfl⟩ := trodVars_none hV
  have h0k := h0
  have h1k := h1
  have h2k := h2
  obtain ⟨A0, hs0, es0, c0, rfl, le0, mx0, ni0, zz0⟩ := open_ents (hval 0 42 v0 rfl rfl) h0
  obtain ⟨A1, ps1, c1, rfl, le1, mx1, zz1⟩ := open_policies (hval 1 67 v1 rfl rfl) h1
  obtain ⟨q2, A2, c2, rfl, le2, mx2, sl2, ni2, zz2⟩ := open_request (hval 2 39 v2 rfl rfl) h2
  clear hA0 hval0
  have z0 := zz0 (sized_at hsz (j := 0) rfl rfl)
  have z1 := zz1 (sized_at hsz (j := 1) rfl rfl)
  have z2 := zz2 (sized_at hsz (j := 2) rfl rfl)
  refine (law_sagain ⟨es0, hs0, A0, c0, q2, A2, c2⟩ ps1 A1 c1 W ⟨z0, ni0, le0, sl2, ⟨le2, mx2⟩, z2.2.2.2, ni2, ⟨z2.1, z2.2.1, z2.2.2.1⟩, hg⟩ z1 le1 mx1).mono fun r W' ⟨he, hb⟩ => ?_
  subst he
  refine ⟨_, rfl, _, _, _, [], p0 ++ (p1 ++ (p2)), [], hW', trodAll_mk1 (shut_bool Tryz.underlying4 _), ?_, ?_, hb.frame _, fun h => by cases h⟩
  · exact trodAll_mk3 (Below.trod Tryz.laidOut ents_rec ents_lt h0k hb (fun x hx => hlt x (by simp [hx]))) (Below.trod Tryz.laidOut policies_rec policies_lt h1k hb (fun x hx => hlt x (by simp [hx]))) (Below.trod Tryz.laidOut request_rec request_lt h2k hb (fun x hx => hlt x (by simp [hx])))
  · rfl

theorem sagain_holds : Rows.SliceAgainSaid :=
  OpenClaim.holds_of_wide 13 Tryz.f13 rfl rfl rfl rfl rfl rfl rfl ⟨rfl, rfl, rfl, rfl, rfl⟩ rfl rfl rfl rfl rfl (by as_aux_lemma => kernel_rfl) Tryz.func13 sagain_closed
    (of_decide_eq_true (by as_aux_lemma => kernel_rfl)) (by unfold Func.isWrapper; rw [if_neg (of_decide_eq_false (by as_aux_lemma => kernel_rfl))]; exact ⟨rfl, rfl⟩)
    (fun os started H enc _ => sagain_lifted os started H enc)
theorem sagain_card : Rows.SliceAgainCardSaid :=
  Claim7.holds_tied_plain_at .later [] [.handle] true (true, "aa0a7b20dda724aeffaf6ef6a93ebaab11c43a1a7eba557b31a0b2f3bbac26b0") true
    sagain_holds (fun _ h => by cases h) (by as_aux_lemma => kernel_rfl) (fun _ h => by cases h) sliceAgain_row_tie rfl ⟨rfl, rfl⟩ (by as_aux_lemma => kernel_rfl) rfl
    (fun f fn hf hfn => by
      obtain rfl : f = 13 := Option.some.inj ((show Tryz.prog.funcNamed "wicketgate/wicketgatelaw4.SliceAgain" = some 13 by as_aux_lemma => kernel_rfl).symm.trans hf) |>.symm
      obtain rfl : fn = Tryz.f13 := (Option.some.inj (Tryz.func13.symm.trans hfn)).symm
      exact ⟨by as_aux_lemma => kernel_rfl, fun j t ht => by
        rw [Tryz.params13] at ht
        have hm : t ∈ [42, 67, 39] := by simpa using Array.mem_of_getElem? ht
        have hall : ([42, 67, 39].all fun u => !Tryz.prog.wantsStandIn u) = true := by as_aux_lemma => kernel_rfl
        exact (show Tryz.prog.wantsStandIn t = false by simpa using List.all_eq_true.1 hall t hm)⟩)
    (by as_aux_lemma => kernel_rfl)
#print axioms sagain_card
end Go.Proofs.YtpheiojmcafolaaGreatDoor
