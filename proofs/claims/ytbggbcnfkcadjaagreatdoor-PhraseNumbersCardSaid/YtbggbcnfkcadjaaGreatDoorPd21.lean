/-
  THE WALK of the law PhraseBrackets.
  THE WALK of the law PhraseLeft.
  PLAIN LAWS: what is printed is read; the laws' own examples.
  THE WALK: the laws' comparison of tokens.
-/
import Derived.Test.YtbggbcnfkcadjaaGreatDoorPd19
import Derived.Test.YtbggbcnfkcadjaaGreatDoorPd20
import Derived.Test.YtbggbcnfkcadjaaGreatDoorPd09
import Derived.Test.YtbggbcnfkcadjaaGreatDoorPd17
import Derived.Test.YtbggbcnfkcadjaaGreatDoorPd03
import Derived.Test.YtbggbcnfkcadjaaGreatDoorProg
import Derived.Test.YtbggbcnfkcadjaaGreatDoorPd01
import Derived.BigQuiet
namespace Go.Proofs.YtbggbcnfkcadjaaGreatDoor
set_option maxRecDepth 100000
open Go.RowKit Go.Sort
theorem NdG.ok {xs : List Nd} (h : ∀ y ∈ xs, NdG y) : NdOk xs := fun x hx => ⟨by have := (h x hx).1; omega, by have := (h x hx).2.1; omega⟩
theorem GlC.far {w W : World} (h : GlC w) (hb : RowKit.Below w.heap.size w W) (hg : 9 ≤ w.heap.size) : GlC W := h.later hb hg
end Go.Proofs.YtbggbcnfkcadjaaGreatDoor
namespace Go.Proofs.YtbggbcnfkcadjaaGreatDoor
set_option maxRecDepth 100000
open Go.RowKit Go.Sort
theorem dig_tok (i : Nat) (h : i < 10) : numT (i : Int) = [⟨2, bsOf [UInt8.ofNat (48 + i)], 0⟩] := by
 unfold numT
 rw [if_neg (by omega)]
 have : Lib.itoa (i : Int) = [UInt8.ofNat (48 + i)] := by
   unfold Lib.itoa
   rw [if_neg (by omega)]
   exact Lib.decDigits_one (i := i) h
 rw [this]
theorem nds_lit (W : World) (ns : List Nd) (cs : Array Value) (h : cs.toList = flat ns) (hn : ns.length ≤ 1000) : (W.alloc (.cells cs 29)).ownsRow W.heap.size 29 4 (.slice (some ⟨W.heap.size, 0, none⟩) ns.length ns.length) ns.length (flat ns) := by
 have := World.ownsRow_lit (base := W.heap.size) (e := 29) (size := 4) W cs ns.length (Nat.le_refl _) (by unfold maxLen; omega) (by rw [← Array.length_toList, h, flat_len])
 rwa [h] at this
end Go.Proofs.YtbggbcnfkcadjaaGreatDoor
namespace Go.Proofs.YtbggbcnfkcadjaaGreatDoor
set_option maxRecDepth 100000
open Go.RowKit
theorem printP_ok {e : List Nd} {us : List Tk} (h : printP e = (us, 0)) : treeErr e = 0 ∧ us = wordsW e ∧ us.length ≤ 300 ∧ e.length ≤ 200 ∧ Ex (.one false) e := by
 unfold printP at h
 by_cases h0 : treeErr e = 0
 · rw [if_neg (by simp [h0])] at h
   split at h
   · injection h with _ h; cases h
   · injection h with h1 h2
     obtain ⟨h3, h4⟩ := (tree_iff e).1 h0
     exact ⟨h0, h1.symm, by rw [← h1]; omega, h3, h4⟩
 · rw [if_pos h0] at h
   injection h with _ h2
   exact absurd h2 h0
theorem back_plain {e : List Nd} {us : List Tk} (hk : NumK e) (h : printP e = (us, 0)) : parseP us = (e, 0, 0) ∧ ∀ t ∈ us, SpT t := by
 obtain ⟨h0, rfl, hl, he, hx⟩ := printP_ok h
 have hs := words_sp _ e (Nat.le_refl _) hx hk
 exact ⟨parse_of hl hs (print_parse h0 hk) he, hs⟩
theorem printP_of {e : List Nd} (h : treeErr e = 0) (hl : (wordsW e).length ≤ 300) : printP e = (wordsW e, 0) := by
 unfold printP; rw [if_neg (by simp [h]), if_neg (by omega)]
def exB : List Nd := [⟨19, 0, ⟨#[]⟩, ⟨#[]⟩⟩, ⟨17, 0, ⟨#[]⟩, ⟨#[]⟩⟩, numX 1, numX 2, numX 3]
theorem exB_tree : treeErr exB = 0 := by
 simp [exB, numX, treeErr, bGo, shapedT, ndParts, valErr, vGo, shapedV]
theorem exB_num : NumK exB := by
 intro x hx h2
 simp only [exB, List.mem_cons, List.not_mem_nil, or_false] at hx
 rcases hx with rfl | rfl | rfl | rfl | rfl <;> simp [numX] at h2 ⊢
theorem exB_words : wordsW exB = [tSg [40], ⟨2, bsOf [49], 0⟩, tSg [43], ⟨2, bsOf [50], 0⟩, tSg [41], tSg [42], ⟨2, bsOf [51], 0⟩] := by
 have h : wordsW exB = tSg [40] :: (numT 1 ++ tSg [43] :: numT 2 ++ [tSg [41]]) ++ tSg [42] :: numT 3 := rfl
 have h1 := dig_tok 1 (by decide)
 have h2 := dig_tok 2 (by decide)
 have h3 := dig_tok 3 (by decide)
 rw [h]
 rw [show numT 1 = _ from h1, show numT 2 = _ from h2, show numT 3 = _ from h3]
 rfl
theorem fact_pb : printP exB = ([tSg [40], ⟨2, bsOf [49], 0⟩, tSg [43], ⟨2, bsOf [50], 0⟩, tSg [41], tSg [42], ⟨2, bsOf [51], 0⟩], 0) := by
 rw [printP_of exB_tree (by rw [exB_words]; decide), exB_words]
theorem read_pb : (readP ⟨#[40, 49, 32, 43, 32, 50, 41, 32, 42, 32, 51]⟩).1.map bareTk = [tSg [40], ⟨2, bsOf [49], 0⟩, tSg [43], ⟨2, bsOf [50], 0⟩, tSg [41], tSg [42], ⟨2, bsOf [51], 0⟩] ∧ (readP ⟨#[40, 49, 32, 43, 32, 50, 41, 32, 42, 32, 51]⟩).1.length ≤ 300 := by
 have e : (⟨#[40, 49, 32, 43, 32, 50, 41, 32, 42, 32, 51]⟩ : ByteArray).toList = [40, 49, 32, 43, 32, 50, 41, 32, 42, 32, 51] := bsOf_list _
 have h : readP ⟨#[40, 49, 32, 43, 32, 50, 41, 32, 42, 32, 51]⟩ = ([⟨5, bsOf [40], 0⟩, ⟨2, bsOf [49], 1⟩, ⟨5, bsOf [43], 3⟩, ⟨2, bsOf [50], 5⟩, ⟨5, bsOf [41], 6⟩, ⟨5, bsOf [42], 8⟩, ⟨2, bsOf [51], 10⟩], 0, 0) := by
   unfold readP
   rw [e, if_neg (by decide)]
   rfl
 rw [h]
 exact ⟨rfl, by simp⟩
theorem one_tree (n : Int) : treeErr [numX n] = 0 := by
 simp [numX, treeErr, bGo, shapedT, ndParts, valErr, vGo, shapedV]
def negX (n : Int) : List Nd := [⟨10, 0, ⟨#[]⟩, ⟨#[]⟩⟩, numX n]
theorem neg_tree (n : Int) : treeErr (negX n) = 0 := by
 simp [negX, numX, treeErr, bGo, shapedT, ndParts, valErr, vGo, shapedV]
theorem one_words (n : Int) : (wordsW [numX n]).length ≤ 300 := by
 have := words_len _ [numX n] (Nat.le_refl _) ((tree_iff _).1 (one_tree n)).2
 simp at this; omega
theorem neg_words (n : Int) : (wordsW (negX n)).length ≤ 300 := by
 have := words_len _ (negX n) (Nat.le_refl _) ((tree_iff _).1 (neg_tree n)).2
 have hl : (negX n).length = 2 := rfl
 omega
end Go.Proofs.YtbggbcnfkcadjaaGreatDoor
namespace Go.Proofs.YtbggbcnfkcadjaaGreatDoor
open Go.RowKit
set_option maxHeartbeats 800000 in
theorem same_Tokens (xs : List Tk) (A1 A2 : Option Addr) (c1 c2 : Nat) (w : World) (h1 : TkSl w w.heap.size A1 xs) (h2 : TkSl w w.heap.size A2 xs) (l1 : xs.length ≤ 9223372036854775807) :
   Calls Tryz.prog 12 #[.slice A1 xs.length c1, .slice A2 xs.length c2] w fun r w' => r = .returned (.bool true) ∧ RowKit.Below w.heap.size w w' := by
 have H1 := Lib.hid h1
 have H2 := Lib.hid h2
 have hne : ((xs.length : Int) != (xs.length : Int)) = false := by simp
 clear h1 h2
 go_enter Tryz.func12, Tryz.ntmps12
 go_wp2_with fail
 go_loopw [5] (fun kk wr => ∃ k : Nat, kk = .int .i64 k ∧ k ≤ xs.length ∧ RowKit.Below w.heap.size w wr) (fun kk _ => xs.length - (intOf kk).toNat)
 case atStart => exact ⟨0, rfl, by omega, RowKit.Below.refl _ _⟩
 case round =>
   obtain ⟨k, rfl, hk, hbr⟩ := hrel
   by_cases hlt : k < xs.length
   · obtain ⟨x, hx⟩ : ∃ x, xs[k]? = some x := ⟨_, List.getElem?_eq_getElem hlt⟩
     obtain ⟨b, o, rfl, hb, ⟨d0, d1, d2⟩⟩ := tkSl_at (H1.out.below hbr) hx
     obtain ⟨b2, o2, rfl, hb2, ⟨f0, f1, f2⟩⟩ := tkSl_at (H2.out.below hbr) hx
     clear hx
     go_wp2_with fail
     go_quiet (fail)
     go_wp2_with fail
     exact ⟨⟨k + 1, by go_num, by omega, below_drewN hbr _⟩, by simp [intOf]; omega⟩
   · go_wp2_with fail
     go_ret
     exact ⟨rfl, hbr⟩
end Go.Proofs.YtbggbcnfkcadjaaGreatDoor
