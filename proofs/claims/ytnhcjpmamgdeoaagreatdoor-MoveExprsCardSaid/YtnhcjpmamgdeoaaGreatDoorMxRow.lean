/-
  PROVED: MoveExprs: for every input the law returns true, and each argument reads behind the call as it read before. The row's listed variables tied to the program's text (the card).
-/
import Derived.Test.YtnhcjpmamgdeoaaGreatDoorRows
import Derived.Test.YtnhcjpmamgdeoaaGreatDoorRow1
import Derived.Test.YtnhcjpmamgdeoaaGreatDoorRowMv
import Derived.Test.YtnhcjpmamgdeoaaGreatDoorLawMx
import Derived.Test.YtnhcjpmamgdeoaaGreatDoorLaid
import Derived.Test.YtnhcjpmamgdeoaaGreatDoorTie
import Derived.Test.YtnhcjpmamgdeoaaGreatDoorCards
import Derived.SevenTiedAt
namespace Go.Proofs.YtnhcjpmamgdeoaaGreatDoor
set_option maxRecDepth 100000
open Go Go.ChangeShapes Go.WideShapes Go.ChangeAt Go.RowKit Go.WideMaps
open Go.ChangeMaps (open_string shut_string)

theorem mexprs_lifted (os : Os) (started : os.Started) (H : Type) (enc : TypeId × Value → H) :
    ReturnsInHanded {} Tryz.checked os 3 .any (fun w args => (Rows.moveExprsSpec.pre enc Tryz.prog Tryz.f3 [] false w args ∧ laidMetH Tryz.prog laidE w) ∧ sizedMet enc Tryz.prog Tryz.f3 (OpenSpec.ofChange Rows.moveExprsSpec) false w args)
      (Rows.moveExprsSpec.post enc Tryz.prog Tryz.f3 false true false false) := by
  refine returnsInHanded_of_change_and (C := Tryz.checked) (X := fun w _ => laidMetH Tryz.prog laidE w) (fun _ _ _ hh h => h.of_heap hh) Tryz.own started (by kernel_rfl) Tryz.func3
    (ChangeSpec.witness_at (enc := enc) (C := Tryz.checked) (os := os) (X := fun w _ => laidMetH Tryz.prog laidE w) false (laidWorld os) #[.agg #[.int .i64 0, .string ByteArray.empty, .string ByteArray.empty], .slice none 0 0, .slice none 0 0] 8 rfl (by kernel_rfl) (by kernel_rfl) (by kernel_rfl) (by kernel_rfl) (by kernel_rfl) (laidWorld_met os _)) ?_
  intro W base args ds gs before hval0 hW _ hsz0 hL _
  have hg := handle_of_laid hL
  have hsz : (DataW.weightsEach Tryz.prog (Tryz.f3.params.toList ++ Rows.moveExprsSpec.plain.varTypes Tryz.prog) (ds ++ gs)).all (· ≤ reachBytes) = true := hsz0
  clear hsz0
  have hval : ∀ (j : Nat) t v, Tryz.f3.params[j]? = some t → args[j]? = some v → Value.okWide Tryz.prog W .any base t v := hval0
  have hW' := hW
  have hlt : ∀ p ∈ before, p.block < W.heap.size := fun p hp => hW.lt p hp
  obtain ⟨p, q, hA0, hV, rfl, _, _⟩ := hW
  have hA : DataW.TrodAll enc Tryz.prog W 0 (fun _ => true) true Tryz.f3.params.toList args.toList ds p := hA0
  rw [Tryz.params3] at hA hval hsz
  obtain ⟨v0, v1, v2, d0, d1, d2, p0, p1, p2, rfl, rfl, rfl, h0, h1, h2⟩ := trodAll_three hA
  obtain ⟨rfl, rfl⟩ := trodVars_none hV
  have h0k := h0
  have h1k := h1
  have h2k := h2
  obtain ⟨m0, rfl, rfl⟩ := open_move (hval 0 23 v0 rfl rfl) h0
  obtain ⟨A1, x1, c1, rfl, le1, mx1, sl1, dt1⟩ := open_nodes (hval 1 24 v1 rfl rfl) h1
  obtain ⟨A2, x2, c2, rfl, le2, mx2, sl2, dt2⟩ := open_nodes (hval 2 24 v2 rfl rfl) h2
  clear hA0 hval0
  have hm0 := mv_weights (H := H) (sized_at hsz (j := 0) rfl rfl)
  have ok1 : NdOk x1 := sized_nodes hsz (j := 1) rfl (dt1.imp id fun ⟨sp, h⟩ => ⟨sp, by rw [h]; rfl⟩)
  have ok2 : NdOk x2 := sized_nodes hsz (j := 2) rfl (dt2.imp id fun ⟨sp, h⟩ => ⟨sp, by rw [h]; rfl⟩)
  refine (law_mexprs m0 x1 x2 A1 c1 A2 c2 W hg hm0 le1 mx1 ok1 sl1 le2 mx2 ok2 sl2).mono fun r W' ⟨he, hb⟩ => ?_
  subst he
  refine ⟨_, rfl, _, _, _, [], p0 ++ (p1 ++ (p2)), [], hW', trodAll_mk1 (shut_bool Tryz.underlying4 _), ?_, ?_, hb.frame _, fun h => by cases h⟩
  · exact trodAll_mk3 (Below.trod Tryz.laidOut move_rec move_lt h0k hb (fun x hx => hlt x (by simp [hx]))) (Below.trod Tryz.laidOut nodes_rec nodes_lt h1k hb (fun x hx => hlt x (by simp [hx]))) (Below.trod Tryz.laidOut nodes_rec nodes_lt h2k hb (fun x hx => hlt x (by simp [hx])))
  · rfl

theorem mexprs_holds : Rows.MoveExprsSaid :=
  OpenClaim.holds_of_wide 3 Tryz.f3 rfl rfl rfl rfl rfl rfl rfl ⟨rfl, rfl, rfl, rfl, rfl⟩ rfl rfl rfl rfl rfl (by kernel_rfl) Tryz.func3 (by kernel_rfl)
    (of_decide_eq_true (by kernel_rfl)) (by unfold Func.isWrapper; rw [if_neg (of_decide_eq_false (by kernel_rfl))]; exact ⟨rfl, rfl⟩)
    (fun os started H enc _ => mexprs_lifted os started H enc)
theorem mexprs_card : Rows.MoveExprsCardSaid :=
  Claim7.holds_tied_plain_at .later [] [.handle] true (true, "9ab1b9a9fe3dbda4ee2206366dc9b0e0325f30166dbf50ed638213bb9f728959") true
    mexprs_holds (fun _ h => by cases h) (by kernel_rfl) (fun _ h => by cases h) moveExprs_row_tie rfl ⟨rfl, rfl⟩ (by kernel_rfl) rfl
    (fun f fn hf hfn => by
      obtain rfl : f = 3 := Option.some.inj ((show Tryz.prog.funcNamed "wicketgate/wicketgatelaw4.MoveExprs" = some 3 by kernel_rfl).symm.trans hf) |>.symm
      obtain rfl : fn = Tryz.f3 := (Option.some.inj (Tryz.func3.symm.trans hfn)).symm
      exact ⟨by kernel_rfl, fun j t ht => by
        rw [Tryz.params3] at ht
        have hm : t ∈ [23, 24, 24] := by simpa using Array.mem_of_getElem? ht
        have hall : ([23, 24, 24].all fun u => !Tryz.prog.wantsStandIn u) = true := by kernel_rfl
        exact (show Tryz.prog.wantsStandIn t = false by simpa using List.all_eq_true.1 hall t hm)⟩)
    (by kernel_rfl)
#print axioms mexprs_card
end Go.Proofs.YtnhcjpmamgdeoaaGreatDoor
