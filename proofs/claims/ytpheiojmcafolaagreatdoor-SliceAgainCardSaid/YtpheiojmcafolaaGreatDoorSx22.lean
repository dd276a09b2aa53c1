/-
  THE WALK of the law AuthAlone (printed by mklawal.py).
-/
import Derived.Test.YtpheiojmcafolaaGreatDoorSx19
import Derived.BigQuiet
import Derived.Deep.RegionHeld3
namespace Go.Proofs.YtpheiojmcafolaaGreatDoor
set_option maxRecDepth 100000
open Go.RowKit Go.Sort
theorem PosIn.one {w : World} {b o : Nat} {ps : List PoM} (h : PosIn w (some ⟨b, o, none⟩) ps) {k : Nat} {y : PoM} (hy : ps[k]? = some y) : PosIn w (some ⟨b, o + k * 15, none⟩) [y] := by
 obtain ⟨b', o', e, hb, hc⟩ := poSl_at h.sl hy
 injection e with e
 injection e with e1 e2
 subst e1 e2
 refine ⟨fun _ => ⟨b, o + k * 15, rfl, hb, fun i z hz => ?_⟩, fun z hz => ?_⟩
 · cases i with
   | zero => simp at hz; subst hz; simpa using hc
   | succ i => simp at hz
 · rw [List.mem_singleton] at hz; subst hz; exact h.each _ (List.mem_of_getElem? hy)
theorem one_ok {x : Aq} {ps : List PoM} (h : askErr x ps = 0) {y : PoM} (hy : y ∈ ps) : askErr x [y] = 0 := by
 obtain ⟨h1, h2, h3⟩ := firstI_zero h
 obtain ⟨_, a2, _⟩ := (auth_ok nmQ pe1Q pe2Q ps).1 h2
 have h4 : aErr [y] = 0 := (auth_ok nmQ pe1Q pe2Q [y]).2 ⟨by simp, fun p hp => by rw [List.mem_singleton] at hp; subst hp; exact a2 _ hy, by simp⟩
 unfold askErr firstI
 rw [if_neg (by simp [h1]), if_neg (by simp [h4]), h3]
def Rq7 (x : Aq) (b : Nat) (w1 W : World) : Prop := W.cell? ⟨b, 0, none⟩ = some (.string x.q.who.ty) ∧ W.cell? ⟨b, 1, none⟩ = some (.string x.q.who.id) ∧ W.cell? ⟨b, 2, none⟩ = some (.string x.q.act.ty) ∧ W.cell? ⟨b, 3, none⟩ = some (.string x.q.act.id) ∧ W.cell? ⟨b, 4, none⟩ = some (.string x.q.what.ty) ∧ W.cell? ⟨b, 5, none⟩ = some (.string x.q.what.id) ∧ W.cell? ⟨b, 6, none⟩ = some (.slice x.qa x.q.ctx.length x.qc) ∧ RowKit.Below w1.heap.size w1 W
theorem Rq7.of {x : Aq} {b : Nat} {w1 W : World} (h : Blk w1 b 39 #[.string x.q.who.ty, .string x.q.who.id, .string x.q.act.ty, .string x.q.act.id, .string x.q.what.ty, .string x.q.what.id, .slice x.qa x.q.ctx.length x.qc]) (hb : RowKit.Below w1.heap.size w1 W) : Rq7 x b w1 W := by
 have h := h.below hb h.lt
 exact ⟨h.cell 0, h.cell 1, h.cell 2, h.cell 3, h.cell 4, h.cell 5, h.cell 6, hb⟩
theorem Rq7.b {x : Aq} {b : Nat} {w1 W : World} (h : Rq7 x b w1 W) : RowKit.Below w1.heap.size w1 W := by
 obtain ⟨_, _, _, _, _, _, _, h⟩ := h
 exact h
theorem Rq7.next {x : Aq} {b : Nat} {w1 W : World} (h : Rq7 x b w1 W) (hB : Blk w1 b 39 #[.string x.q.who.ty, .string x.q.who.id, .string x.q.act.ty, .string x.q.act.id, .string x.q.what.ty, .string x.q.what.id, .slice x.qa x.q.ctx.length x.qc]) (o : Obj) : Rq7 x b w1 (W.alloc o) := Rq7.of hB (h.b.alloc h.b.size o)
theorem Rq7.set {x : Aq} {b : Nat} {w1 W : World} (h : Rq7 x b w1 W) (hB : Blk w1 b 39 #[.string x.q.who.ty, .string x.q.who.id, .string x.q.act.ty, .string x.q.act.id, .string x.q.what.ty, .string x.q.what.id, .slice x.qa x.q.ctx.length x.qc]) {p : Addr} (hp : w1.heap.size ≤ p.block) (u : Value) : Rq7 x b w1 (W.setCell p u) := Rq7.of hB (h.b.setCell hp u)
end Go.Proofs.YtpheiojmcafolaaGreatDoor
