/-
  THE WALK of the law PhraseBrackets.
  THE WALK of the law PhraseLeft.
  PLAIN LAWS: what is printed is read; the laws' own examples.
  THE WALK: the laws' comparison of tokens.
-/
import Derived.Test.YtbggbcnfkcadjaaGreatDoorPf15
import Derived.Test.YtbggbcnfkcadjaaGreatDoorPf06
import Derived.Test.YtbggbcnfkcadjaaGreatDoorPf14
import Derived.Recover
import Derived.Test.YtbggbcnfkcadjaaGreatDoorPf08
import Derived.Laws.StructEq
import Derived.Defers
import Derived.Test.YtbggbcnfkcadjaaGreatDoorPf01
import Derived.BigQuiet
import Derived.Test.YtbggbcnfkcadjaaGreatDoorPf03
import Derived.Test.YtbggbcnfkcadjaaGreatDoorProg
namespace Go.Proofs.YtbggbcnfkcadjaaGreatDoor
set_option maxRecDepth 100000
open Go.RowKit Go.Sort
theorem five : numT 5 = [⟨2, bsOf [53], 0⟩] := by
 unfold numT
 rw [if_neg (by decide)]
 have : Lib.itoa 5 = [53] := by
   unfold Lib.itoa
   rw [if_neg (by decide)]
   exact Lib.decDigits_one (i := 5) (by decide)
 rw [this]
theorem GlC.far {w W : World} (h : GlC w) (hb : RowKit.Below w.heap.size w W) (hg : 9 ≤ w.heap.size) : GlC W := h.later hb hg
theorem tk_lit (W : World) (t : Tk) : (W.alloc (.cells #[.int .i64 t.kind, .string t.s, .int .i64 t.at_] 42)).ownsRow W.heap.size 42 3 (.slice (some ⟨W.heap.size, 0, none⟩) 1 1) 1 (flatG Tk.cells [t]) := by
 have := World.ownsRow_lit (base := W.heap.size) (e := 42) (size := 3) W #[.int .i64 t.kind, .string t.s, .int .i64 t.at_] 1 (Nat.le_refl _) (by decide) (by simp)
 exact this
theorem toks_form {W : World} {A : Option Addr} {c n : Nat} {toks : List Tk} {B : Nat} (h : W.ownsRow B 42 3 (.slice A n c) n (flatG Tk.cells toks)) : n = toks.length ∧ n ≤ c ∧ c ≤ 9223372036854775807 ∧ TkSl W W.heap.size A toks := by
 obtain ⟨hn, A', c', hv, h1, h2, h3⟩ := own_formG tk_ok h
 injection hv with e1 e2 e3
 subst e1 e3
 exact ⟨hn, h1, h2, h3⟩
end Go.Proofs.YtbggbcnfkcadjaaGreatDoor
namespace Go.Proofs.YtbggbcnfkcadjaaGreatDoor
set_option maxRecDepth 100000
open Go.RowKit Go.Sort
theorem nds_lit (W : World) (ns : List Nd) (cs : Array Value) (h : cs.toList = flat ns) (hn : ns.length ≤ 1000) : (W.alloc (.cells cs 29)).ownsRow W.heap.size 29 4 (.slice (some ⟨W.heap.size, 0, none⟩) ns.length ns.length) ns.length (flat ns) := by
 have := World.ownsRow_lit (base := W.heap.size) (e := 29) (size := 4) W cs ns.length (Nat.le_refl _) (by unfold maxLen; omega) (by rw [← Array.length_toList, h, flat_len])
 rwa [h] at this
end Go.Proofs.YtbggbcnfkcadjaaGreatDoor
namespace Go.Proofs.YtbggbcnfkcadjaaGreatDoor
set_option maxRecDepth 100000
open Go.RowKit
theorem printP_of {e : List Nd} (h : treeErr e = 0) (hl : (wordsW e).length ≤ 300) : printP e = (wordsW e, 0) := by
 unfold printP; rw [if_neg (by simp [h]), if_neg (by omega)]
def negX (n : Int) : List Nd := [⟨10, 0, ⟨#[]⟩, ⟨#[]⟩⟩, numX n]
theorem neg_tree (n : Int) : treeErr (negX n) = 0 := by
 simp [negX, numX, treeErr, bGo, shapedT, ndParts, valErr, vGo, shapedV]
theorem neg_words (n : Int) : (wordsW (negX n)).length ≤ 300 := by
 have := words_len _ (negX n) (Nat.le_refl _) ((tree_iff _).1 (neg_tree n)).2
 have hl : (negX n).length = 2 := rfl
 omega
end Go.Proofs.YtbggbcnfkcadjaaGreatDoor
namespace Go.Proofs.YtbggbcnfkcadjaaGreatDoor
open Go.RowKit
set_option maxHeartbeats 800000 in
theorem same_Tokens (xs : List Tk) (A1 A2 : Option Addr) (c1 c2 : Nat) (w : World) (h1 : TkSl w w.heap.size A1 xs) (h2 : TkSl w w.heap.size A2 xs) (l1 : xs.length ≤ 9223372036854775807) :
   Calls Tryz.prog 12 #[.slice A1 xs.length c1, .slice A2 xs.length c2] w fun r w' => r = .returned (.bool true) ∧ RowKit.Below w.heap.size w w' := by
 have H1 := Lib.hid h1
 have H2 := Lib.hid h2
 have hne : ((xs.length : Int) != (xs.length : Int)) = false := by simp
 clear h1 h2
 go_enter Tryz.func12, Tryz.ntmps12
 go_wp2_with fail
 go_loopw [5] (fun kk wr => ∃ k : Nat, kk = .int .i64 k ∧ k ≤ xs.length ∧ RowKit.Below w.heap.size w wr) (fun kk _ => xs.length - (intOf kk).toNat)
 case atStart => exact ⟨0, rfl, by omega, RowKit.Below.refl _ _⟩
 case round =>
   obtain ⟨k, rfl, hk, hbr⟩ := hrel
   by_cases hlt : k < xs.length
   · obtain ⟨x, hx⟩ : ∃ x, xs[k]? = some x := ⟨_, List.getElem?_eq_getElem hlt⟩
     obtain ⟨b, o, rfl, hb, ⟨d0, d1, d2⟩⟩ := tkSl_at (H1.out.below hbr) hx
     obtain ⟨b2, o2, rfl, hb2, ⟨f0, f1, f2⟩⟩ := tkSl_at (H2.out.below hbr) hx
     clear hx
     go_wp2_with fail
     go_quiet (fail)
     go_wp2_with fail
     exact ⟨⟨k + 1, by go_num, by omega, below_drewN hbr _⟩, by simp [intOf]; omega⟩
   · go_wp2_with fail
     go_ret
     exact ⟨rfl, hbr⟩
end Go.Proofs.YtbggbcnfkcadjaaGreatDoor
