/-
 THE WALKS: auth.vote.
 A CELL that was there, in a later world.
-/
import Derived.Test.YtpheiojmcafolaaGreatDoorSy15
import Derived.Test.YtpheiojmcafolaaGreatDoorSy22
import Derived.BigQuiet
import Derived.Deep.RegionHeld3
namespace Go.Proofs.YtpheiojmcafolaaGreatDoor
set_option maxRecDepth 100000
open Go.RowKit Go.Sort
structure AqIn (x : Aq) (w : World) : Prop where
 ents : EntsIn w x.Ea x.hs x.es
 ai : ∀ e ∈ x.es, NdI e.at_
 ec : x.hs.length ≤ x.ec
 ctx : NdSl w w.heap.size x.qa x.q.ctx
 qc : x.q.ctx.length ≤ x.qc ∧ x.qc ≤ 9223372036854775807
 qk : NdOk x.q.ctx
 qi : NdI x.q.ctx
 qz : UdOk x.q.who ∧ UdOk x.q.act ∧ UdOk x.q.what
 err : ErrCell w
theorem AqIn.later {x : Aq} {w w' : World} (h : AqIn x w) (hb : RowKit.Below w.heap.size w w') : AqIn x w' :=
 ⟨h.ents.later hb, h.ai, h.ec, (h.ctx.below hb).more hb.size, h.qc, h.qk, h.qi, h.qz, h.err.below hb h.err.lt⟩
def Aq.ev (x : Aq) (e : List Nd) (ea : Option Addr) (eca : Nat) : Evl := ⟨x.es, x.hs, x.Ea, x.ec, x.q, x.qa, x.qc, e, ea, eca⟩
theorem AqIn.va {x : Aq} {w : World} (h : AqIn x w) {e : List Nd} {ea : Option Addr} {eca : Nat} (h1 : NdSl w w.heap.size ea e) (h2 : e.length ≤ eca) (h3 : eca ≤ 9223372036854775807) (h4 : NdOk e) (h5 : NdI e) : VaIn (x.ev e ea eca) w :=
 ⟨h.ents, h.ai, h.ec, h.ctx, h.qc, h.qk, h.qi, h.qz, h1, ⟨h2, h3⟩, h4, h5, h.err⟩
theorem valueR_nz {es : List En} {q : Rq} {e : List Nd} {k : Int} (h : valueR es q e = .bad k) : k ≠ 0 := by
 unfold valueR at h;split at h
 · rename_i h1; injection h with h; rw [← h]; exact h1
 · split at h
   · rename_i h1; injection h with h; rw [← h]; exact h1
   · split at h
     · rename_i h1; injection h with h; rw [← h]; exact h1
     · rename_i ht;exact nz_ev es q _ e (Nat.le_refl _) ((tree_iff e).1 (Classical.not_not.1 ht)).2 k h
end Go.Proofs.YtpheiojmcafolaaGreatDoor
namespace Go.Proofs.YtpheiojmcafolaaGreatDoor
open Go.RowKit Go.Sort
theorem cell_keep {w w' : World} {b i : Nat} {v : Value} (h : RowKit.Below w.heap.size w w') (hb : b < w.heap.size) (hc : w.cell? ⟨b, i, none⟩ = some v) : w'.cell? ⟨b, i, none⟩ = some v := (h.cell (p := ⟨b, i, none⟩) hb).trans hc
end Go.Proofs.YtpheiojmcafolaaGreatDoor
