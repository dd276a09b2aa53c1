/-
  PROVED: MoveMeans: for every input the law returns true, and each argument reads behind the call as it read before. The row's listed variables tied to the program's text (the card).
-/
import Derived.Test.YtpheiojmcafolaaGreatDoorRows
import Derived.Test.YtpheiojmcafolaaGreatDoorMmRowC
import Derived.Test.YtpheiojmcafolaaGreatDoorSy02
import Derived.Test.YtpheiojmcafolaaGreatDoorSy04
import Derived.Test.YtpheiojmcafolaaGreatDoorSy14
import Derived.Test.YtpheiojmcafolaaGreatDoorSy26
import Derived.Test.YtpheiojmcafolaaGreatDoorSy27
import Derived.Test.YtpheiojmcafolaaGreatDoorTie
import Derived.Test.YtpheiojmcafolaaGreatDoorCards
import Derived.SevenTiedAt
namespace Go.Proofs.YtpheiojmcafolaaGreatDoor
set_option maxRecDepth 100000
open Go Go.ChangeShapes Go.WideShapes Go.ChangeAt Go.RowKit Go.WideMaps
open Go.ChangeMaps (open_string shut_string)

theorem mmeans_lifted (os : Os) (started : os.Started) (H : Type) (enc : TypeId × Value → H) :
    ReturnsInHanded {} Tryz.checked os 5 .any (fun w args => (Rows.moveMeansSpec.pre enc Tryz.prog Tryz.f5 [] false w args ∧ laidMetH Tryz.prog laidE w) ∧ sizedMet enc Tryz.prog Tryz.f5 (OpenSpec.ofChange Rows.moveMeansSpec) false w args)
      (Rows.moveMeansSpec.post enc Tryz.prog Tryz.f5 false true false false) := by
  refine returnsInHanded_of_change_and (C := Tryz.checked) (X := fun w _ => laidMetH Tryz.prog laidE w) (fun _ _ _ hh h => h.of_heap hh) Tryz.own started (by kernel_rfl) Tryz.func5
    (ChangeSpec.witness_at (enc := enc) (C := Tryz.checked) (os := os) (X := fun w _ => laidMetH Tryz.prog laidE w) false (laidWorld os) #[.agg #[.int .i64 0, .string ByteArray.empty, .string ByteArray.empty], .slice none 0 0, .agg #[.string ByteArray.empty, .string ByteArray.empty, .string ByteArray.empty, .string ByteArray.empty, .string ByteArray.empty, .string ByteArray.empty, .slice none 0 0], .slice none 0 0] 8 rfl (by kernel_rfl) (by kernel_rfl) (by kernel_rfl) (by kernel_rfl) (by kernel_rfl) (laidWorld_met os _)) ?_
  intro W base args ds gs before hval0 hW _ hsz0 hL _
  have hg := handle_of_laid hL
  have hsz : (DataW.weightsEach Tryz.prog (Tryz.f5.params.toList ++ Rows.moveMeansSpec.plain.varTypes Tryz.prog) (ds ++ gs)).all (· ≤ reachBytes) = true := hsz0
  clear hsz0
  have hval : ∀ (j : Nat) t v, Tryz.f5.params[j]? = some t → args[j]? = some v → Value.okWide Tryz.prog W .any base t v := hval0
  have hW' := hW
  have hlt : ∀ p ∈ before, p.block < W.heap.size := fun p hp => hW.lt p hp
  obtain ⟨p, q, hA0, hV, rfl, _, _⟩ := hW
  have hA : DataW.TrodAll enc Tryz.prog W 0 (fun _ => true) true Tryz.f5.params.toList args.toList ds p := hA0
  rw [Tryz.params5] at hA hval hsz
  obtain ⟨v0, v1, v2, v3, d0, d1, d2, d3, p0, p1, p2, p3, rfl, rfl, rfl, h0, h1, h2, h3⟩ := trodAll_four hA
  obtain ⟨rfl, rfl⟩ := trodVars_none hV
  have h0k := h0
  have h1k := h1
  have h2k := h2
  have h3k := h3
  obtain ⟨m0, rfl, rfl⟩ := open_move (hval 0 56 v0 rfl rfl) h0
  obtain ⟨A1, hs1, es1, c1, rfl, le1, mx1, ni1, zz1⟩ := open_ents (hval 1 42 v1 rfl rfl) h1
  obtain ⟨q2, A2, c2, rfl, le2, mx2, sl2, ni2, zz2⟩ := open_request (hval 2 39 v2 rfl rfl) h2
  obtain ⟨A3, x3, c3, rfl, le3, mx3, sl3, ni3, zz3⟩ := open_nodesI (hval 3 22 v3 rfl rfl) h3
  clear hA0 hval0
  have hm0 := mv_weights (H := H) (sized_at hsz (j := 0) rfl rfl)
  have z1 := zz1 (sized_at hsz (j := 1) rfl rfl)
  have z2 := zz2 (sized_at hsz (j := 2) rfl rfl)
  have z3 := zz3 (sized_at hsz (j := 3) rfl rfl)
  refine (law_mmeans m0 ⟨es1, hs1, A1, c1, q2, A2, c2⟩ x3 A3 c3 W hm0 ⟨z1, ni1, le1, sl2, ⟨le2, mx2⟩, z2.2.2.2, ni2, ⟨z2.1, z2.2.1, z2.2.2.1⟩, hg⟩ (Nat.le_trans le1 mx1) le3 mx3 z3 sl3 ni3).mono fun r W' ⟨he, hb⟩ => ?_
  subst he
  refine ⟨_, rfl, _, _, _, [], p0 ++ (p1 ++ (p2 ++ (p3))), [], hW', trodAll_mk1 (shut_bool Tryz.underlying4 _), ?_, ?_, hb.frame _, fun h => by cases h⟩
  · exact trodAll_mk4 (Below.trod Tryz.laidOut move_rec move_lt h0k hb (fun x hx => hlt x (by simp [hx]))) (Below.trod Tryz.laidOut ents_rec ents_lt h1k hb (fun x hx => hlt x (by simp [hx]))) (Below.trod Tryz.laidOut request_rec request_lt h2k hb (fun x hx => hlt x (by simp [hx]))) (Below.trod Tryz.laidOut nodes_rec nodes_lt h3k hb (fun x hx => hlt x (by simp [hx])))
  · rfl

theorem mmeans_holds : Rows.MoveMeansSaid :=
  OpenClaim.holds_of_wide 5 Tryz.f5 rfl rfl rfl rfl rfl rfl rfl ⟨rfl, rfl, rfl, rfl, rfl⟩ rfl rfl rfl rfl rfl (by as_aux_lemma => kernel_rfl) Tryz.func5 mmeans_closed
    (of_decide_eq_true (by as_aux_lemma => kernel_rfl)) (by unfold Func.isWrapper; rw [if_neg (of_decide_eq_false (by as_aux_lemma => kernel_rfl))]; exact ⟨rfl, rfl⟩)
    (fun os started H enc _ => mmeans_lifted os started H enc)
theorem mmeans_card : Rows.MoveMeansCardSaid :=
  Claim7.holds_tied_plain_at .later [] [.handle] true (true, "aa0a7b20dda724aeffaf6ef6a93ebaab11c43a1a7eba557b31a0b2f3bbac26b0") true
    mmeans_holds (fun _ h => by cases h) (by as_aux_lemma => kernel_rfl) (fun _ h => by cases h) moveMeans_row_tie rfl ⟨rfl, rfl⟩ (by as_aux_lemma => kernel_rfl) rfl
    (fun f fn hf hfn => by
      obtain rfl : f = 5 := Option.some.inj ((show Tryz.prog.funcNamed "wicketgate/wicketgatelaw4.MoveMeans" = some 5 by as_aux_lemma => kernel_rfl).symm.trans hf) |>.symm
      obtain rfl : fn = Tryz.f5 := (Option.some.inj (Tryz.func5.symm.trans hfn)).symm
      exact ⟨by as_aux_lemma => kernel_rfl, fun j t ht => by
        rw [Tryz.params5] at ht
        have hm : t ∈ [56, 42, 39, 22] := by simpa using Array.mem_of_getElem? ht
        have hall : ([56, 42, 39, 22].all fun u => !Tryz.prog.wantsStandIn u) = true := by as_aux_lemma => kernel_rfl
        exact (show Tryz.prog.wantsStandIn t = false by simpa using List.all_eq_true.1 hall t hm)⟩)
    (by as_aux_lemma => kernel_rfl)
#print axioms mmeans_card
end Go.Proofs.YtpheiojmcafolaaGreatDoor
