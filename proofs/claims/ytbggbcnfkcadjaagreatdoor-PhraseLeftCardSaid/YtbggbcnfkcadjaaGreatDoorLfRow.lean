/-
  PROVED: PhraseLeft: for every input the law returns true, and each argument reads behind the call as it read before. The row's listed variables tied to the program's text (the card).
-/
import Derived.Test.YtbggbcnfkcadjaaGreatDoorRows
import Derived.Test.YtbggbcnfkcadjaaGreatDoorLfRowC
import Derived.Test.YtbggbcnfkcadjaaGreatDoorPc01
import Derived.Test.YtbggbcnfkcadjaaGreatDoorPc02
import Derived.Test.YtbggbcnfkcadjaaGreatDoorProg
import Derived.Deep.Slices
import Derived.Deep.Fields
import Derived.ChangeSame
import Derived.SizedLaws
import Derived.ProofKit
import Derived.Test.YtbggbcnfkcadjaaGreatDoorPc03
import Derived.Test.YtbggbcnfkcadjaaGreatDoorPc16
import Derived.Test.YtbggbcnfkcadjaaGreatDoorPc15
import Derived.Carry
namespace Go.Proofs.YtbggbcnfkcadjaaGreatDoor
set_option maxRecDepth 100000
open Go Go.ChangeShapes Go.WideShapes Go.ChangeAt Go.RowKit Go.WideMaps
open Go.ChangeMaps (open_string shut_string)

theorem left_lifted (os : Os) (started : os.Started) (H : Type) (enc : TypeId × Value → H) :
    ReturnsInHanded {} Tryz.checked os 5 .any (fun w args => (Rows.phraseLeftSpec.pre enc Tryz.prog Tryz.f5 [] false w args ∧ laidMetH Tryz.prog laidB w) ∧ sizedMet enc Tryz.prog Tryz.f5 (OpenSpec.ofChange Rows.phraseLeftSpec) false w args)
      (Rows.phraseLeftSpec.post enc Tryz.prog Tryz.f5 false true false false) := by
  refine returnsInHanded_of_change_and (C := Tryz.checked) (X := fun w _ => laidMetH Tryz.prog laidB w) (fun _ _ _ hh h => h.of_heap hh) Tryz.own started (by kernel_rfl) Tryz.func5
    (ChangeSpec.witness_shaped (enc := enc) (C := Tryz.checked) (os := os) (X := fun w _ => laidMetH Tryz.prog laidB w) false (laidWorldB os) #[.slice none 0 0, .slice none 0 0, .slice none 0 0, .int .i64 0] 8 (laidWorldB_os os)
      (World.shaped_of_ZipB (by kernel_rfl) (by kernel_rfl)) (by kernel_rfl) (by kernel_rfl) (by kernel_rfl)
      (laidWorldB_met os _)) ?_
  intro W base args ds gs before hval0 hW _ hsz0 hL _
  have hg := gl_of_laid hL
  have hsz : (DataW.weightsEach Tryz.prog (Tryz.f5.params.toList ++ Rows.phraseLeftSpec.plain.varTypes Tryz.prog) (ds ++ gs)).all (· ≤ reachBytes) = true := hsz0
  clear hsz0
  have hval : ∀ (j : Nat) t v, Tryz.f5.params[j]? = some t → args[j]? = some v → Value.okWide Tryz.prog W .any base t v := hval0
  have hW' := hW
  have hlt : ∀ p ∈ before, p.block < W.heap.size := fun p hp => hW.lt p hp
  obtain ⟨p, q, hA0, hV, rfl, _, _⟩ := hW
  have hA : DataW.TrodAll enc Tryz.prog W 0 (fun _ => true) true Tryz.f5.params.toList args.toList ds p := hA0
  rw [Tryz.params5] at hA hval hsz
  obtain ⟨v0, v1, v2, v3, d0, d1, d2, d3, p0, p1, p2, p3, rfl, rfl, rfl, h0, h1, h2, h3⟩ := trodAll_four hA
  obtain ⟨rfl, rfl⟩ := trodVars_none hV
  have h0k := h0
  have h1k := h1
  have h2k := h2
  obtain ⟨A0, x0, c0, rfl, le0, mx0, sl0, dt0⟩ := open_toks (hval 0 23 v0 rfl rfl) h0
  obtain ⟨A1, x1, c1, rfl, le1, mx1, sl1, dt1⟩ := open_toks (hval 1 23 v1 rfl rfl) h1
  obtain ⟨A2, x2, c2, rfl, le2, mx2, sl2, dt2⟩ := open_toks (hval 2 23 v2 rfl rfl) h2
  obtain ⟨k3, rfl, rfl, rfl, wk3⟩ := open_int Tryz.underlying3 (hval 3 3 v3 rfl rfl) h3
  clear hA0 hval0
  have ok0 := sized_toks hsz (j := 0) rfl (dt0.imp id fun ⟨sp, h⟩ => ⟨sp, by rw [h]; rfl⟩)
  have ok1 := sized_toks hsz (j := 1) rfl (dt1.imp id fun ⟨sp, h⟩ => ⟨sp, by rw [h]; rfl⟩)
  have ok2 := sized_toks hsz (j := 2) rfl (dt2.imp id fun ⟨sp, h⟩ => ⟨sp, by rw [h]; rfl⟩)
  refine (law_left x0 x1 x2 A0 A1 A2 c0 c1 c2 k3 W ⟨sl0, le0, mx0, ok0⟩ ⟨sl1, le1, mx1, ok1⟩ ⟨sl2, le2, mx2, ok2⟩ hg hg.ng).mono fun r W' ⟨he, hb⟩ => ?_
  subst he
  refine ⟨_, rfl, _, _, _, [], p0 ++ (p1 ++ (p2 ++ ([]))), [], hW', trodAll_mk1 (shut_bool Tryz.underlying4 _), ?_, ?_, hb.frame _, fun h => by cases h⟩
  · exact trodAll_mk4 (Below.trod Tryz.laidOut toks_rec toks_lt h0k hb (fun x hx => hlt x (by simp [hx]))) (Below.trod Tryz.laidOut toks_rec toks_lt h1k hb (fun x hx => hlt x (by simp [hx]))) (Below.trod Tryz.laidOut toks_rec toks_lt h2k hb (fun x hx => hlt x (by simp [hx]))) (shut_int Tryz.underlying3 wk3)
  · rfl

theorem left_holds : Rows.PhraseLeftSaid :=
  OpenClaim.holds_of_wide 5 Tryz.f5 rfl rfl rfl rfl rfl rfl rfl ⟨rfl, rfl, rfl, rfl, rfl⟩ rfl rfl rfl rfl rfl (by as_aux_lemma => kernel_rfl) Tryz.func5 left_closed
    (of_decide_eq_true (by as_aux_lemma => kernel_rfl)) (by unfold Func.isWrapper; rw [if_neg (of_decide_eq_false (by as_aux_lemma => kernel_rfl))]; exact ⟨rfl, rfl⟩)
    (fun os started H enc _ => left_lifted os started H enc)
theorem left_card : Rows.PhraseLeftCardSaid :=
  Claim7.holds_tied_plain_at .later [] [.data, .data, .data, .data, .sentinel, .sentinel, .pinned] true (true, "22462f34d2c07f8702a20cb967daf64ca85056cec080d783f5a7e3336608c5cb") true
    left_holds (fun _ h => by cases h) (by as_aux_lemma => kernel_rfl) (fun _ h => by cases h) phraseLeft_row_tie rfl ⟨rfl, rfl⟩ (by as_aux_lemma => kernel_rfl) rfl
    (fun f fn hf hfn => by
      obtain rfl : f = 5 := Option.some.inj ((show Tryz.prog.funcNamed "wicketgate/wicketgatelaw2.PhraseLeft" = some 5 by as_aux_lemma => kernel_rfl).symm.trans hf) |>.symm
      obtain rfl : fn = Tryz.f5 := (Option.some.inj (Tryz.func5.symm.trans hfn)).symm
      exact ⟨by as_aux_lemma => kernel_rfl, fun j t ht => by
        rw [Tryz.params5] at ht
        have hm : t ∈ [23, 23, 23, 3] := by simpa using Array.mem_of_getElem? ht
        have hall : ([23, 23, 23, 3].all fun u => !Tryz.prog.wantsStandIn u) = true := by as_aux_lemma => kernel_rfl
        exact (show Tryz.prog.wantsStandIn t = false by simpa using List.all_eq_true.1 hall t hm)⟩)
    (by as_aux_lemma => kernel_rfl)
#print axioms left_card
end Go.Proofs.YtbggbcnfkcadjaaGreatDoor
