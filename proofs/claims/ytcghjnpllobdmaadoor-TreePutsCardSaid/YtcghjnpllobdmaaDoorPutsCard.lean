/-
  PROVED: TreePuts, THE TIED CARD: for every input the law returns true, and each argument reads behind the call as it read before; the row's one listed variable is tied to the program's text.
-/
import Derived.Test.YtcghjnpllobdmaaDoorPutsRow
namespace Go.Proofs.YtcghjnpllobdmaaDoor
open Go

theorem puts_card : Rows.TreePutsCardSaid :=
  Claim7.holds_tied_plain_at .later [] [.handle] true (true, "c5885d4a3fb04cacf9275b254fc0dc7285fe56ba92c7bcbcc65fd13af2ddf405") true
    puts_holds (fun _ h => by cases h) (by kernel_rfl) (fun _ h => by cases h) treePuts_row_tie rfl ⟨rfl, rfl⟩ (by kernel_rfl) rfl
    (fun f fn hf hfn => by
      obtain rfl : f = 4 := Option.some.inj ((show Tryd.prog.funcNamed "wicketgate/wicketgatelaw2.TreePuts" = some 4 by kernel_rfl).symm.trans hf) |>.symm
      obtain rfl : fn = Tryd.f4 := (Option.some.inj (Tryd.func4.symm.trans hfn)).symm
      exact ⟨by kernel_rfl, fun j t ht => by
        rw [Tryd.params4] at ht
        have h3 : t = 30 ∨ t = 9 := by
          rcases j with _ | _ | _ | j
          · simp at ht; exact .inl ht.symm
          · simp at ht; exact .inr ht.symm
          · simp at ht; exact .inl ht.symm
          · simp at ht
        rcases h3 with rfl | rfl
        · exact (show Tryd.prog.wantsStandIn 30 = false by kernel_rfl)
        · exact (show Tryd.prog.wantsStandIn 9 = false by kernel_rfl)⟩)
    (by kernel_rfl)
#print axioms puts_card
end Go.Proofs.YtcghjnpllobdmaaDoor
