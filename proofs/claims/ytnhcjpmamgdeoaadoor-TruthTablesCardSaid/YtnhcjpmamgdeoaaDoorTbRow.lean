/-
  PROVED: TruthTables: for every input the law returns true, and each argument reads behind the call as it read before. The row's listed variables tied to the program's text (the card).
-/
import Derived.Test.YtnhcjpmamgdeoaaDoorRows
import Derived.Test.YtnhcjpmamgdeoaaDoorRow1
import Derived.Test.YtnhcjpmamgdeoaaDoorRowS
import Derived.Test.YtnhcjpmamgdeoaaDoorLawTb
import Derived.Test.YtnhcjpmamgdeoaaDoorLaid
import Derived.Test.YtnhcjpmamgdeoaaDoorTie
import Derived.Test.YtnhcjpmamgdeoaaDoorCards
import Derived.SevenTiedAt
namespace Go.Proofs.YtnhcjpmamgdeoaaDoor
set_option maxRecDepth 100000
open Go Go.ChangeShapes Go.WideShapes Go.ChangeAt Go.RowKit Go.WideMaps
open Go.ChangeMaps (open_string shut_string)

theorem tables_lifted (os : Os) (started : os.Started) (H : Type) (enc : TypeId × Value → H) :
    ReturnsInHanded {} Tryd.checked os 4 .any (fun w args => (Rows.truthTablesSpec.pre enc Tryd.prog Tryd.f4 [] false w args ∧ laidMetH Tryd.prog laidE w) ∧ sizedMet enc Tryd.prog Tryd.f4 (OpenSpec.ofChange Rows.truthTablesSpec) false w args)
      (Rows.truthTablesSpec.post enc Tryd.prog Tryd.f4 false true false false) := by
  refine returnsInHanded_of_change_and (C := Tryd.checked) (X := fun w _ => laidMetH Tryd.prog laidE w) (fun _ _ _ hh h => h.of_heap hh) Tryd.own started (by kernel_rfl) Tryd.func4
    (ChangeSpec.witness_at (enc := enc) (C := Tryd.checked) (os := os) (X := fun w _ => laidMetH Tryd.prog laidE w) false (laidWorld os) #[.slice none 0 0, .slice none 0 0, .slice none 0 0] 8 rfl (by kernel_rfl) (by kernel_rfl) (by kernel_rfl) (by kernel_rfl) (by kernel_rfl) (laidWorld_met os _)) ?_
  intro W base args ds gs before hval0 hW _ hsz0 hL _
  have hg := handle_of_laid hL
  have hsz : (DataW.weightsEach Tryd.prog (Tryd.f4.params.toList ++ Rows.truthTablesSpec.plain.varTypes Tryd.prog) (ds ++ gs)).all (· ≤ reachBytes) = true := hsz0
  clear hsz0
  have hval : ∀ (j : Nat) t v, Tryd.f4.params[j]? = some t → args[j]? = some v → Value.okWide Tryd.prog W .any base t v := hval0
  have hW' := hW
  have hlt : ∀ p ∈ before, p.block < W.heap.size := fun p hp => hW.lt p hp
  obtain ⟨p, q, hA0, hV, rfl, _, _⟩ := hW
  have hA : DataW.TrodAll enc Tryd.prog W 0 (fun _ => true) true Tryd.f4.params.toList args.toList ds p := hA0
  rw [Tryd.params4] at hA hval hsz
  obtain ⟨v0, v1, v2, d0, d1, d2, p0, p1, p2, rfl, rfl, rfl, h0, h1, h2⟩ := trodAll_three hA
  obtain ⟨rfl, rfl⟩ := trodVars_none hV
  have h0k := h0
  have h1k := h1
  have h2k := h2
  obtain ⟨A0, x0, c0, rfl, le0, mx0, sl0, dt0⟩ := open_nodes (hval 0 22 v0 rfl rfl) h0
  obtain ⟨A1, x1, c1, rfl, le1, mx1, sl1, dt1⟩ := open_nodes (hval 1 22 v1 rfl rfl) h1
  obtain ⟨A2, x2, c2, rfl, le2, mx2, sl2, dt2⟩ := open_strs (hval 2 23 v2 rfl rfl) h2
  clear hA0 hval0
  have ok0 : NdOk x0 := sized_nodes hsz (j := 0) rfl (dt0.imp id fun ⟨sp, h⟩ => ⟨sp, by rw [h]; rfl⟩)
  have ok1 : NdOk x1 := sized_nodes hsz (j := 1) rfl (dt1.imp id fun ⟨sp, h⟩ => ⟨sp, by rw [h]; rfl⟩)
  have ok2 := sized_strs hsz (j := 2) rfl (dt2.imp id fun ⟨sp, h⟩ => ⟨sp, by rw [h]; rfl⟩)
  refine (law_tables x0 x1 A0 c0 A1 c1 x2 A2 c2 W hg le0 mx0 ok0 sl0 le1 mx1 ok1 sl1 sl2 le2 mx2).mono fun r W' ⟨he, hb⟩ => ?_
  subst he
  refine ⟨_, rfl, _, _, _, [], p0 ++ (p1 ++ (p2)), [], hW', trodAll_mk1 (shut_bool Tryd.underlying4 _), ?_, ?_, hb.frame _, fun h => by cases h⟩
  · exact trodAll_mk3 (Below.trod Tryd.laidOut nodes_rec nodes_lt h0k hb (fun x hx => hlt x (by simp [hx]))) (Below.trod Tryd.laidOut nodes_rec nodes_lt h1k hb (fun x hx => hlt x (by simp [hx]))) (Below.trod Tryd.laidOut strs_rec strs_lt h2k hb (fun x hx => hlt x (by simp [hx])))
  · rfl

theorem tables_holds : Rows.TruthTablesSaid :=
  OpenClaim.holds_of_wide 4 Tryd.f4 rfl rfl rfl rfl rfl rfl rfl ⟨rfl, rfl, rfl, rfl, rfl⟩ rfl rfl rfl rfl rfl (by kernel_rfl) Tryd.func4 (by kernel_rfl)
    (of_decide_eq_true (by kernel_rfl)) (by unfold Func.isWrapper; rw [if_neg (of_decide_eq_false (by kernel_rfl))]; exact ⟨rfl, rfl⟩)
    (fun os started H enc _ => tables_lifted os started H enc)
theorem tables_card : Rows.TruthTablesCardSaid :=
  Claim7.holds_tied_plain_at .later [] [.handle] true (true, "58fcdd60b44f31b28f3ab2f5f9bc41ae6600f0962f0fe37c6d5ad19494622c99") true
    tables_holds (fun _ h => by cases h) (by kernel_rfl) (fun _ h => by cases h) truthTables_row_tie rfl ⟨rfl, rfl⟩ (by kernel_rfl) rfl
    (fun f fn hf hfn => by
      obtain rfl : f = 4 := Option.some.inj ((show Tryd.prog.funcNamed "wicketgate/wicketgatelaw4.TruthTables" = some 4 by kernel_rfl).symm.trans hf) |>.symm
      obtain rfl : fn = Tryd.f4 := (Option.some.inj (Tryd.func4.symm.trans hfn)).symm
      exact ⟨by kernel_rfl, fun j t ht => by
        rw [Tryd.params4] at ht
        have hm : t ∈ [22, 22, 23] := by simpa using Array.mem_of_getElem? ht
        have hall : ([22, 22, 23].all fun u => !Tryd.prog.wantsStandIn u) = true := by kernel_rfl
        exact (show Tryd.prog.wantsStandIn t = false by simpa using List.all_eq_true.1 hall t hm)⟩)
    (by kernel_rfl)
#print axioms tables_card
end Go.Proofs.YtnhcjpmamgdeoaaDoor
