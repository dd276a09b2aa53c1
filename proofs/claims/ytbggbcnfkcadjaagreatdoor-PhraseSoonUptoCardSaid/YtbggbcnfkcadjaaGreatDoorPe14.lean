/-
  THE WALK of the law PhraseBrackets.
-/
import Derived.Test.YtbggbcnfkcadjaaGreatDoorPe05
import Derived.Test.YtbggbcnfkcadjaaGreatDoorPe12
import Derived.Test.YtbggbcnfkcadjaaGreatDoorPe13
import Derived.Test.YtbggbcnfkcadjaaGreatDoorPe01
import Derived.BigQuiet
import Derived.Test.YtbggbcnfkcadjaaGreatDoorPe10
namespace Go.Proofs.YtbggbcnfkcadjaaGreatDoor
set_option maxRecDepth 100000
open Go.RowKit Go.Sort
theorem num_shape (n : Int) : shapedT (numX n) = true := by
 have h : valErr [numX n] = 0 := by simp [valErr, vGo, shapedV, numX]
 unfold shapedT
 rw [if_pos (.inr (.inl rfl)), h]; rfl
theorem num_read {n : Int} (h : -9223372036854775808 ≤ n ∧ n ≤ 9223372036854775807) : Ps .whole (numT n) [numX n] [] := by
 have := (bk_leaf (n := numX n) (num_shape n) (.inr (.inl rfl)) (fun _ => h)).1.c0 [] (Fl.nil 0)
 rw [List.append_nil] at this
 exact this
theorem five : numT 5 = [⟨2, bsOf [53], 0⟩] := by
 unfold numT
 rw [if_neg (by decide)]
 have : Lib.itoa 5 = [53] := by
   unfold Lib.itoa
   rw [if_neg (by decide)]
   exact Lib.decDigits_one (i := 5) (by decide)
 rw [this]
theorem NdG.ok {xs : List Nd} (h : ∀ y ∈ xs, NdG y) : NdOk xs := fun x hx => ⟨by have := (h x hx).1; omega, by have := (h x hx).2.1; omega⟩
theorem GlC.far {w W : World} (h : GlC w) (hb : RowKit.Below w.heap.size w W) (hg : 9 ≤ w.heap.size) : GlC W := h.later hb hg
theorem toks_form {W : World} {A : Option Addr} {c n : Nat} {toks : List Tk} {B : Nat} (h : W.ownsRow B 42 3 (.slice A n c) n (flatG Tk.cells toks)) : n = toks.length ∧ n ≤ c ∧ c ≤ 9223372036854775807 ∧ TkSl W W.heap.size A toks := by
 obtain ⟨hn, A', c', hv, h1, h2, h3⟩ := own_formG tk_ok h
 injection hv with e1 e2 e3
 subst e1 e3
 exact ⟨hn, h1, h2, h3⟩
end Go.Proofs.YtbggbcnfkcadjaaGreatDoor
