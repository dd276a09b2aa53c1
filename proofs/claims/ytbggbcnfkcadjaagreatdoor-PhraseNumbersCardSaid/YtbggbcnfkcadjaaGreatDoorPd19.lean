/-
  PLAIN LAWS: brackets about all of it; from the left.
  PLAIN LAWS: from the left.
-/
import Derived.Test.YtbggbcnfkcadjaaGreatDoorPd17
import Derived.Test.YtbggbcnfkcadjaaGreatDoorPd18
namespace Go.Proofs.YtbggbcnfkcadjaaGreatDoor
open Go.RowKit
theorem parse_of {ts : List Tk} {e : List Nd} (hl : ts.length ≤ 300) (hs : ∀ t ∈ ts, SpT t) (h : Ps .whole ts e []) (he : e.length ≤ 200) : parseP ts = (e, 0, 0) := by
 obtain ⟨f, h⟩ := h
 have hnb := pa_en (16 * ts.length + 12) ts.length .whole (by have := rank_le .whole; omega) ts (Nat.le_refl _)
 have h1 := pa_more (Nat.le_max_left f (16 * ts.length + 12)) (t := .whole) (ts := ts) (by rw [h]; intro r hr; cases hr)
 have h2 := pa_more (Nat.le_max_right f (16 * ts.length + 12)) (t := .whole) (ts := ts) hnb
 rw [h1, h] at h2
 unfold parseP
 have hf : ts.findIdx? (fun t => !(speltP t).2) = none := by
   rw [List.findIdx?_eq_none_iff]
   intro t ht
   have : (speltP t).2 = true := hs t ht
   simp [this]
 rw [if_neg (by omega), hf]
 simp only
 rw [← h2]
 simp only
 rw [if_neg (by omega)]
end Go.Proofs.YtbggbcnfkcadjaaGreatDoor
namespace Go.Proofs.YtbggbcnfkcadjaaGreatDoor
open Go.RowKit
def PT.ne : PT → Prop
 | .lp _ e => e ≠ [] | .po e => e ≠ [] | _ => True
end Go.Proofs.YtbggbcnfkcadjaaGreatDoor
