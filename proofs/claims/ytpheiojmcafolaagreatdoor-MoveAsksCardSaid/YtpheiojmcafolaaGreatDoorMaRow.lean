/-
  PROVED: MoveAsks: for every input the law returns true, and each argument reads behind the call as it read before. The row's listed variables tied to the program's text (the card).
-/
import Derived.Test.YtpheiojmcafolaaGreatDoorRows
import Derived.Test.YtpheiojmcafolaaGreatDoorMaRowC
import Derived.Test.YtpheiojmcafolaaGreatDoorSz02
import Derived.Test.YtpheiojmcafolaaGreatDoorSz04
import Derived.Test.YtpheiojmcafolaaGreatDoorSz15
import Derived.Test.YtpheiojmcafolaaGreatDoorSz35
import Derived.Test.YtpheiojmcafolaaGreatDoorSz36
import Derived.Test.YtpheiojmcafolaaGreatDoorTie
import Derived.Test.YtpheiojmcafolaaGreatDoorCards
import Derived.SevenTiedAt
namespace Go.Proofs.YtpheiojmcafolaaGreatDoor
set_option maxRecDepth 100000
open Go Go.ChangeShapes Go.WideShapes Go.ChangeAt Go.RowKit Go.WideMaps
open Go.ChangeMaps (open_string shut_string)

theorem masks_lifted (os : Os) (started : os.Started) (H : Type) (enc : TypeId × Value → H) :
    ReturnsInHanded {} Tryz.checked os 14 .any (fun w args => (Rows.moveAsksSpec.pre enc Tryz.prog Tryz.f14 [] false w args ∧ laidMetH Tryz.prog Zng w) ∧ sizedMet enc Tryz.prog Tryz.f14 (OpenSpec.ofChange Rows.moveAsksSpec) false w args)
      (Rows.moveAsksSpec.post enc Tryz.prog Tryz.f14 false true false false) := by
  refine returnsInHanded_of_change_and (C := Tryz.checked) (X := fun w _ => laidMetH Tryz.prog Zng w) (fun _ _ _ hh h => h.of_heap hh) Tryz.own started (by kernel_rfl) Tryz.func14
    (ChangeSpec.witness_at (enc := enc) (C := Tryz.checked) (os := os) (X := fun w _ => laidMetH Tryz.prog Zng w) false (laidWorld os) #[.agg #[.int .i64 0, .string ByteArray.empty, .string ByteArray.empty], .slice none 0 0, .slice none 0 0, .agg #[.string ByteArray.empty, .string ByteArray.empty, .string ByteArray.empty, .string ByteArray.empty, .string ByteArray.empty, .string ByteArray.empty, .slice none 0 0]] 8 rfl (by kernel_rfl) (by kernel_rfl) (by kernel_rfl) (by kernel_rfl) (by kernel_rfl) (Zkj os _)) ?_
  intro W base args ds gs before hval0 hW _ hsz0 hL _
  have hg := Zhl hL
  have hsz : (DataW.weightsEach Tryz.prog (Tryz.f14.params.toList ++ Rows.moveAsksSpec.plain.varTypes Tryz.prog) (ds ++ gs)).all (· ≤ reachBytes) = true := hsz0
  clear hsz0
  have hval : ∀ (j : Nat) t v, Tryz.f14.params[j]? = some t → args[j]? = some v → Value.okWide Tryz.prog W .any base t v := hval0
  have hW' := hW
  have hlt : ∀ p ∈ before, p.block < W.heap.size := fun p hp => hW.lt p hp
  obtain ⟨p, q, hA0, hV, rfl, _, _⟩ := hW
  have hA : DataW.TrodAll enc Tryz.prog W 0 (fun _ => true) true Tryz.f14.params.toList args.toList ds p := hA0
  rw [Tryz.params14] at hA hval hsz
  obtain ⟨v0, v1, v2, v3, d0, d1, d2, d3, p0, p1, p2, p3, rfl, rfl, rfl, h0, h1, h2, h3⟩ := trodAll_four hA
  obtain ⟨rfl, rfl⟩ := trodVars_none hV
  have h0k := h0
  have h1k := h1
  have h2k := h2
  have h3k := h3
  obtain ⟨m0, rfl, rfl⟩ := Zv4 (hval 0 56 v0 rfl rfl) h0
  obtain ⟨A1, hs1, es1, c1, rfl, le1, mx1, ni1, zz1⟩ := Zun (hval 1 42 v1 rfl rfl) h1
  obtain ⟨A2, ps2, c2, rfl, le2, mx2, zz2⟩ := Zjw (hval 2 67 v2 rfl rfl) h2
  obtain ⟨q3, A3, c3, rfl, le3, mx3, sl3, ni3, zz3⟩ := Zmg (hval 3 39 v3 rfl rfl) h3
  clear hA0 hval0
  have hm0 := Zqw (H := H) (Zex hsz (j := 0) rfl rfl)
  have z1 := zz1 (Zex hsz (j := 1) rfl rfl)
  have z2 := zz2 (Zex hsz (j := 2) rfl rfl)
  have z3 := zz3 (Zex hsz (j := 3) rfl rfl)
  refine (Zvf m0 ⟨es1, hs1, A1, c1, q3, A3, c3⟩ ps2 A2 c2 W hm0 ⟨z1, ni1, le1, sl3, ⟨le3, mx3⟩, z3.2.2.2, ni3, ⟨z3.1, z3.2.1, z3.2.2.1⟩, hg⟩ z2 (Nat.le_trans le1 mx1)).mono fun r W' ⟨he, hb⟩ => ?_
  subst he
  refine ⟨_, rfl, _, _, _, [], p0 ++ (p1 ++ (p2 ++ (p3))), [], hW', trodAll_mk1 (shut_bool Tryz.underlying4 _), ?_, ?_, hb.frame _, fun h => by cases h⟩
  · exact trodAll_mk4 (Below.trod Tryz.laidOut Zyv Z1t h0k hb (fun x hx => hlt x (by simp [hx]))) (Below.trod Tryz.laidOut Zzk Z3o h1k hb (fun x hx => hlt x (by simp [hx]))) (Below.trod Tryz.laidOut Zl2 Zob h2k hb (fun x hx => hlt x (by simp [hx]))) (Below.trod Tryz.laidOut Znw Zru h3k hb (fun x hx => hlt x (by simp [hx])))
  · rfl

theorem masks_holds : Rows.MoveAsksSaid :=
  OpenClaim.holds_of_wide 14 Tryz.f14 rfl rfl rfl rfl rfl rfl rfl ⟨rfl, rfl, rfl, rfl, rfl⟩ rfl rfl rfl rfl rfl (by as_aux_lemma => kernel_rfl) Tryz.func14 masks_closed
    (of_decide_eq_true (by as_aux_lemma => kernel_rfl)) (by unfold Func.isWrapper; rw [if_neg (of_decide_eq_false (by as_aux_lemma => kernel_rfl))]; exact ⟨rfl, rfl⟩)
    (fun os started H enc _ => masks_lifted os started H enc)
theorem masks_card : Rows.MoveAsksCardSaid :=
  Claim7.holds_tied_plain_at .later [] [.handle] true (true, "aa0a7b20dda724aeffaf6ef6a93ebaab11c43a1a7eba557b31a0b2f3bbac26b0") true
    masks_holds (fun _ h => by cases h) (by as_aux_lemma => kernel_rfl) (fun _ h => by cases h) moveAsks_row_tie rfl ⟨rfl, rfl⟩ (by as_aux_lemma => kernel_rfl) rfl
    (fun f fn hf hfn => by
      obtain rfl : f = 14 := Option.some.inj ((show Tryz.prog.funcNamed "wicketgate/wicketgatelaw4.MoveAsks" = some 14 by as_aux_lemma => kernel_rfl).symm.trans hf) |>.symm
      obtain rfl : fn = Tryz.f14 := (Option.some.inj (Tryz.func14.symm.trans hfn)).symm
      exact ⟨by as_aux_lemma => kernel_rfl, fun j t ht => by
        rw [Tryz.params14] at ht
        have hm : t ∈ [56, 42, 67, 39] := by simpa using Array.mem_of_getElem? ht
        have hall : ([56, 42, 67, 39].all fun u => !Tryz.prog.wantsStandIn u) = true := by as_aux_lemma => kernel_rfl
        exact (show Tryz.prog.wantsStandIn t = false by simpa using List.all_eq_true.1 hall t hm)⟩)
    (by as_aux_lemma => kernel_rfl)
#print axioms masks_card
end Go.Proofs.YtpheiojmcafolaaGreatDoor
