/-
  THE WALKS: eval.Value.
  THE WALKS: eval.Value where nothing is bad.
  PLAIN LAWS: what is wrong has a number that is not 0.
  THE WALKS: eval.Value, whole.
  THE WALK: the laws' comparison of nodes.
  THE WALK of the law TruthMeans.
  The row's condition on errors.errorType: what it gives a walk, and a world that meets it (turned from the worked ToyasProofs).
-/
import Derived.Test.YtpheiojmcafolaaGreatDoorT18
import Derived.Test.YtpheiojmcafolaaGreatDoorT01
import Derived.BigQuiet
import Derived.Test.YtpheiojmcafolaaGreatDoorT03
import Derived.Test.YtpheiojmcafolaaGreatDoorT07
import Derived.Test.YtpheiojmcafolaaGreatDoorT11
import Derived.Test.YtpheiojmcafolaaGreatDoorRows
import Derived.Test.YtpheiojmcafolaaGreatDoorT12
import Derived.Test.YtpheiojmcafolaaGreatDoorT02
import Derived.ChangeVars
import Derived.JoinedOf
import Derived.LaidLaws
import Derived.LaidHandle
import Derived.Stop.Joined
namespace Go.Proofs.YtpheiojmcafolaaGreatDoor
set_option maxRecDepth 100000
open Go.RowKit Go.Sort
/-- What eval.Value is given. -/
structure VaIn (x : Evl) (w : World) : Prop where
  ents : EntsIn w x.Ea x.hs x.es
  ai : ∀ e ∈ x.es, NdI e.at_
  ec : x.hs.length ≤ x.ec
  ctx : NdSl w w.heap.size x.qa x.q.ctx
  qc : x.q.ctx.length ≤ x.qc ∧ x.qc ≤ 9223372036854775807
  qk : NdOk x.q.ctx
  qi : NdI x.q.ctx
  qz : UdOk x.q.who ∧ UdOk x.q.act ∧ UdOk x.q.what
  ex : NdSl w w.heap.size x.ea x.e
  eca : x.e.length ≤ x.eca ∧ x.eca ≤ 9223372036854775807
  ek : NdOk x.e
  ei : NdI x.e
  err : ErrCell w
theorem VaIn.later {x : Evl} {w w' : World} (h : VaIn x w) (hb : RowKit.Below w.heap.size w w') : VaIn x w' :=
  ⟨h.ents.later hb, h.ai, h.ec, (h.ctx.below hb).more hb.size, h.qc, h.qk, h.qi, h.qz, (h.ex.below hb).more hb.size, h.eca, h.ek, h.ei, h.err.below hb h.err.lt⟩
theorem store_err (w : World) (b : Nat) (k : Int) (u : Value) (hc : w.cell? ⟨b, 0, none⟩ = some u) (hf : w.frozen? ⟨b, 0, none⟩ = false) : Sem.run Tryz.prog (storeCells ⟨b, 0, none⟩ [errV k]) w = .ok () (w.setCell ⟨b, 0, none⟩ (errV k)) := by
  unfold errV
  split <;> simp [storeCells, hc, hf, go_sem]
set_option maxHeartbeats 6400000 in
theorem value_1 (x : Evl) (w : World) (h : VaIn x w) (h1 : entErr x.es ≠ 0) :
    Calls Tryz.prog 19 #[.slice x.Ea x.hs.length x.ec, .agg #[.string x.q.who.ty, .string x.q.who.id, .string x.q.act.ty, .string x.q.act.id, .string x.q.what.ty, .string x.q.what.id, .slice x.qa x.q.ctx.length x.qc], .slice x.ea x.e.length x.eca] w fun r w' => r = .returned (.tuple #[.slice none 0 0, errV (entErr x.es)]) ∧ RowKit.Below w.heap.size w w' := by
  have hmf : ∀ (fn : Fn) (first cap : Array Value) (w : World), (Instr.makeFunc fn first cap).run Tryz.prog w = .ok (.func fn first cap) w := fun _ _ _ _ => rfl
  have HE := Lib.hid (fun W (hb : RowKit.Below w.heap.size w W) => ent_Check x.hs x.es x.Ea x.ec W (h.later hb).ents h.ec)
  have HA := Lib.hid (fun W (hb : RowKit.Below w.heap.size w W) => eval_Ask x.q x.qa x.qc W h.qz.1 h.qz.2.1 h.qz.2.2 h.qc.1 h.qc.2 h.qk (h.later hb).ctx)
  have HT := Lib.hid (fun W (hb : RowKit.Below w.heap.size w W) => tree_Check x.e x.ea x.eca W h.eca.1 h.eca.2 h.ek (h.later hb).ex)
  have HH := Lib.hid h
  have b0 : Blk (((w.alloc (.cells #[.string x.q.who.ty, .string x.q.who.id, .string x.q.act.ty, .string x.q.act.id, .string x.q.what.ty, .string x.q.what.id, .slice x.qa x.q.ctx.length x.qc] 39)).alloc (.cells #[.slice none 0 0] 22)).alloc (.cells #[.nilIface] 27)) w.heap.size 39 #[.string x.q.who.ty, .string x.q.who.id, .string x.q.act.ty, .string x.q.act.id, .string x.q.what.ty, .string x.q.what.id, .slice x.qa x.q.ctx.length x.qc] := ((Blk.new w _ _).alloc _).alloc _
  have b1 : Blk (((w.alloc (.cells #[.string x.q.who.ty, .string x.q.who.id, .string x.q.act.ty, .string x.q.act.id, .string x.q.what.ty, .string x.q.what.id, .slice x.qa x.q.ctx.length x.qc] 39)).alloc (.cells #[.slice none 0 0] 22)).alloc (.cells #[.nilIface] 27)) (w.heap.size + 1) 22 #[.slice none 0 0] := by
    have := (Blk.new (w.alloc (.cells #[.string x.q.who.ty, .string x.q.who.id, .string x.q.act.ty, .string x.q.act.id, .string x.q.what.ty, .string x.q.what.id, .slice x.qa x.q.ctx.length x.qc] 39)) 22 #[.slice none 0 0]).alloc (.cells #[.nilIface] 27)
    rwa [World.size_alloc] at this
  have b2 : Blk (((w.alloc (.cells #[.string x.q.who.ty, .string x.q.who.id, .string x.q.act.ty, .string x.q.act.id, .string x.q.what.ty, .string x.q.what.id, .slice x.qa x.q.ctx.length x.qc] 39)).alloc (.cells #[.slice none 0 0] 22)).alloc (.cells #[.nilIface] 27)) (w.heap.size + 1 + 1) 27 #[.nilIface] := by
    have := Blk.new ((w.alloc (.cells #[.string x.q.who.ty, .string x.q.who.id, .string x.q.act.ty, .string x.q.act.id, .string x.q.what.ty, .string x.q.what.id, .slice x.qa x.q.ctx.length x.qc] 39)).alloc (.cells #[.slice none 0 0] 22)) 27 #[.nilIface]
    rwa [World.size_alloc, World.size_alloc] at this
  have hb0 : RowKit.Below w.heap.size w (((w.alloc (.cells #[.string x.q.who.ty, .string x.q.who.id, .string x.q.act.ty, .string x.q.act.id, .string x.q.what.ty, .string x.q.what.id, .slice x.qa x.q.ctx.length x.qc] 39)).alloc (.cells #[.slice none 0 0] 22)).alloc (.cells #[.nilIface] 27)) := by (repeat (first | assumption | exact Below.refl _ _ | apply Below.drew | apply below_drewN | (refine Below.alloc ?_ (by first | exact Nat.le_refl _ | omega | (simp; done) | (simp; omega)) _)))
  have t1 : (entErr x.es != 0) = true := by simpa using h1
  generalize entErr x.es = k at t1 h1 HE ⊢
  have he1 : errV k = .iface 96 (.int .i64 k) := by unfold errV; rw [if_neg h1]
  rw [he1]
  have HE1 := Lib.hid he1
  clear h1
  clear h
  go_enter_defers Tryz.func19, Tryz.ntmps19
  go_wp2_with fail
  generalize (((w.alloc (.cells #[.string x.q.who.ty, .string x.q.who.id, .string x.q.act.ty, .string x.q.act.id, .string x.q.what.ty, .string x.q.what.id, .slice x.qa x.q.ctx.length x.qc] 39)).alloc (.cells #[.slice none 0 0] 22)).alloc (.cells #[.nilIface] 27)) = w1 at b0 b1 b2 hb0 ⊢
  have B0 := Lib.hid b0
  have B1 := Lib.hid b1
  have B2 := Lib.hid b2
  have HB0 := Lib.hid hb0
  clear b0 b1 b2
  refine (HE.out w1 HB0.out).mono ?_
  rintro r w2 ⟨hr, hb2⟩
  rw [he1] at hr
  subst hr
  have hbw2 := hb0.trans (hb2.mono hb0.size)
  have c1 : w2.cell? ⟨w.heap.size + 1, 0, none⟩ = some (.slice none 0 0) := (B1.out.below hb2 B1.out.lt).cell 0
  have f1 : w2.frozen? ⟨w.heap.size + 1, 0, none⟩ = false := (B1.out.below hb2 B1.out.lt).frozen 0
  have c2 : w2.cell? ⟨w.heap.size + 1 + 1, 0, none⟩ = some .nilIface := (B2.out.below hb2 B2.out.lt).cell 0
  have f2 : w2.frozen? ⟨w.heap.size + 1 + 1, 0, none⟩ = false := (B2.out.below hb2 B2.out.lt).frozen 0
  have HBW2 := Lib.hid hbw2
  have hse : ∀ k, Sem.run Tryz.prog (storeCells ⟨w.heap.size + 1 + 1, 0, none⟩ [errV k]) (w2.setCell ⟨w.heap.size + 1, 0, none⟩ (.slice none 0 0)) = .ok () ((w2.setCell ⟨w.heap.size + 1, 0, none⟩ (.slice none 0 0)).setCell ⟨w.heap.size + 1 + 1, 0, none⟩ (errV k)) := fun k =>
    store_err _ _ k .nilIface ((World.cell?_of_block (w := w2) (a := ⟨w.heap.size + 1 + 1, 0, none⟩) (RowKit.Below.heap_setCell _ _ _ _ (by simp))).trans c2) ((World.frozen?_of_block (w := w2) (a := ⟨w.heap.size + 1 + 1, 0, none⟩) (RowKit.Below.heap_setCell _ _ _ _ (by simp))).trans f2)
  clear hb2 hbw2 hse he1
  go_wp2_with fail
  have hcA : (w2.setCell ⟨w.heap.size + 1, 0, none⟩ (.slice none 0 0)).cell? ⟨w.heap.size + 1, 0, none⟩ = some (.slice none 0 0) := World.cell?_setCell_same _ _ _ c1
  have hcB : ((w2.setCell ⟨w.heap.size + 1, 0, none⟩ (.slice none 0 0)).setCell ⟨w.heap.size + 1 + 1, 0, none⟩ (.iface 96 (.int .i64 k))).cell? ⟨w.heap.size + 1 + 1, 0, none⟩ = some (.iface 96 (.int .i64 k)) :=
    World.cell?_setCell_same _ _ _ ((World.cell?_of_block (w := w2) (a := ⟨w.heap.size + 1 + 1, 0, none⟩) (RowKit.Below.heap_setCell _ _ _ _ (by simp))).trans c2)
  have hbF : RowKit.Below w.heap.size w ((w2.setCell ⟨w.heap.size + 1, 0, none⟩ (.slice none 0 0)).setCell ⟨w.heap.size + 1 + 1, 0, none⟩ (.iface 96 (.int .i64 k))) := (HBW2.out.setCell (by simp) _).setCell (by show _ ≤ w.heap.size + 1 + 1; omega) _
  simp [bodyPostD, Leaves, results, Tryz.results19, go_sem, hcA, hcB, hbF]
set_option maxHeartbeats 6400000 in
theorem value_2 (x : Evl) (w : World) (h : VaIn x w) (h0 : entErr x.es = 0) (h1 : rqErr x.q ≠ 0) :
    Calls Tryz.prog 19 #[.slice x.Ea x.hs.length x.ec, .agg #[.string x.q.who.ty, .string x.q.who.id, .string x.q.act.ty, .string x.q.act.id, .string x.q.what.ty, .string x.q.what.id, .slice x.qa x.q.ctx.length x.qc], .slice x.ea x.e.length x.eca] w fun r w' => r = .returned (.tuple #[.slice none 0 0, errV (rqErr x.q)]) ∧ RowKit.Below w.heap.size w w' := by
  have hmf : ∀ (fn : Fn) (first cap : Array Value) (w : World), (Instr.makeFunc fn first cap).run Tryz.prog w = .ok (.func fn first cap) w := fun _ _ _ _ => rfl
  have HE := Lib.hid (fun W (hb : RowKit.Below w.heap.size w W) => ent_Check x.hs x.es x.Ea x.ec W (h.later hb).ents h.ec)
  have HA := Lib.hid (fun W (hb : RowKit.Below w.heap.size w W) => eval_Ask x.q x.qa x.qc W h.qz.1 h.qz.2.1 h.qz.2.2 h.qc.1 h.qc.2 h.qk (h.later hb).ctx)
  have HT := Lib.hid (fun W (hb : RowKit.Below w.heap.size w W) => tree_Check x.e x.ea x.eca W h.eca.1 h.eca.2 h.ek (h.later hb).ex)
  have HH := Lib.hid h
  have b0 : Blk (((w.alloc (.cells #[.string x.q.who.ty, .string x.q.who.id, .string x.q.act.ty, .string x.q.act.id, .string x.q.what.ty, .string x.q.what.id, .slice x.qa x.q.ctx.length x.qc] 39)).alloc (.cells #[.slice none 0 0] 22)).alloc (.cells #[.nilIface] 27)) w.heap.size 39 #[.string x.q.who.ty, .string x.q.who.id, .string x.q.act.ty, .string x.q.act.id, .string x.q.what.ty, .string x.q.what.id, .slice x.qa x.q.ctx.length x.qc] := ((Blk.new w _ _).alloc _).alloc _
  have b1 : Blk (((w.alloc (.cells #[.string x.q.who.ty, .string x.q.who.id, .string x.q.act.ty, .string x.q.act.id, .string x.q.what.ty, .string x.q.what.id, .slice x.qa x.q.ctx.length x.qc] 39)).alloc (.cells #[.slice none 0 0] 22)).alloc (.cells #[.nilIface] 27)) (w.heap.size + 1) 22 #[.slice none 0 0] := by
    have := (Blk.new (w.alloc (.cells #[.string x.q.who.ty, .string x.q.who.id, .string x.q.act.ty, .string x.q.act.id, .string x.q.what.ty, .string x.q.what.id, .slice x.qa x.q.ctx.length x.qc] 39)) 22 #[.slice none 0 0]).alloc (.cells #[.nilIface] 27)
    rwa [World.size_alloc] at this
  have b2 : Blk (((w.alloc (.cells #[.string x.q.who.ty, .string x.q.who.id, .string x.q.act.ty, .string x.q.act.id, .string x.q.what.ty, .string x.q.what.id, .slice x.qa x.q.ctx.length x.qc] 39)).alloc (.cells #[.slice none 0 0] 22)).alloc (.cells #[.nilIface] 27)) (w.heap.size + 1 + 1) 27 #[.nilIface] := by
    have := Blk.new ((w.alloc (.cells #[.string x.q.who.ty, .string x.q.who.id, .string x.q.act.ty, .string x.q.act.id, .string x.q.what.ty, .string x.q.what.id, .slice x.qa x.q.ctx.length x.qc] 39)).alloc (.cells #[.slice none 0 0] 22)) 27 #[.nilIface]
    rwa [World.size_alloc, World.size_alloc] at this
  have hb0 : RowKit.Below w.heap.size w (((w.alloc (.cells #[.string x.q.who.ty, .string x.q.who.id, .string x.q.act.ty, .string x.q.act.id, .string x.q.what.ty, .string x.q.what.id, .slice x.qa x.q.ctx.length x.qc] 39)).alloc (.cells #[.slice none 0 0] 22)).alloc (.cells #[.nilIface] 27)) := by (repeat (first | assumption | exact Below.refl _ _ | apply Below.drew | apply below_drewN | (refine Below.alloc ?_ (by first | exact Nat.le_refl _ | omega | (simp; done) | (simp; omega)) _)))
  have he0 : errV (entErr x.es) = .nilIface := by rw [h0]; rfl
  generalize rqErr x.q = k at h1 HA ⊢
  have he1 : errV k = .iface 96 (.int .i64 k) := by unfold errV; rw [if_neg h1]
  rw [he1]
  clear h1
  clear h
  go_enter_defers Tryz.func19, Tryz.ntmps19
  go_wp2_with fail
  generalize (((w.alloc (.cells #[.string x.q.who.ty, .string x.q.who.id, .string x.q.act.ty, .string x.q.act.id, .string x.q.what.ty, .string x.q.what.id, .slice x.qa x.q.ctx.length x.qc] 39)).alloc (.cells #[.slice none 0 0] 22)).alloc (.cells #[.nilIface] 27)) = w1 at b0 b1 b2 hb0 ⊢
  have B01 := Lib.hid b0
  have B11 := Lib.hid b1
  have B21 := Lib.hid b2
  have BW1 := Lib.hid hb0
  clear b0 b1 b2 hb0
  refine (HE.out w1 BW1.out).mono ?_
  rintro r w2 ⟨hr, hb2⟩
  rw [he0] at hr
  subst hr
  have B02 := Lib.hid (B01.out.below hb2 B01.out.lt)
  have B12 := Lib.hid (B11.out.below hb2 B11.out.lt)
  have B22 := Lib.hid (B21.out.below hb2 B21.out.lt)
  have BW2 := Lib.hid (BW1.out.trans (hb2.mono BW1.out.size))
  clear hb2
  have q20 : w2.cell? ⟨w.heap.size, 0, none⟩ = some (.string x.q.who.ty) := B02.out.cell 0
  have q21 : w2.cell? ⟨w.heap.size, 1, none⟩ = some (.string x.q.who.id) := B02.out.cell 1
  have q22 : w2.cell? ⟨w.heap.size, 2, none⟩ = some (.string x.q.act.ty) := B02.out.cell 2
  have q23 : w2.cell? ⟨w.heap.size, 3, none⟩ = some (.string x.q.act.id) := B02.out.cell 3
  have q24 : w2.cell? ⟨w.heap.size, 4, none⟩ = some (.string x.q.what.ty) := B02.out.cell 4
  have q25 : w2.cell? ⟨w.heap.size, 5, none⟩ = some (.string x.q.what.id) := B02.out.cell 5
  have q26 : w2.cell? ⟨w.heap.size, 6, none⟩ = some (.slice x.qa x.q.ctx.length x.qc) := B02.out.cell 6
  go_wp2_with fail
  refine (HA.out w2 BW2.out).mono ?_
  rintro r w3 ⟨hr, hb3⟩
  rw [he1] at hr
  subst hr
  have B03 := Lib.hid (B02.out.below hb3 B02.out.lt)
  have B13 := Lib.hid (B12.out.below hb3 B12.out.lt)
  have B23 := Lib.hid (B22.out.below hb3 B22.out.lt)
  have BW3 := Lib.hid (BW2.out.trans (hb3.mono BW2.out.size))
  clear hb3
  have c1 : w3.cell? ⟨w.heap.size + 1, 0, none⟩ = some (.slice none 0 0) := B13.out.cell 0
  have f1 : w3.frozen? ⟨w.heap.size + 1, 0, none⟩ = false := B13.out.frozen 0
  have c2 : w3.cell? ⟨w.heap.size + 1 + 1, 0, none⟩ = some .nilIface := B23.out.cell 0
  have f2 : w3.frozen? ⟨w.heap.size + 1 + 1, 0, none⟩ = false := B23.out.frozen 0
  clear he1 he0
  go_wp2_with fail
  have hcA : (w3.setCell ⟨w.heap.size + 1, 0, none⟩ (.slice none 0 0)).cell? ⟨w.heap.size + 1, 0, none⟩ = some (.slice none 0 0) := World.cell?_setCell_same _ _ _ c1
  have hcB : ((w3.setCell ⟨w.heap.size + 1, 0, none⟩ (.slice none 0 0)).setCell ⟨w.heap.size + 1 + 1, 0, none⟩ (.iface 96 (.int .i64 k))).cell? ⟨w.heap.size + 1 + 1, 0, none⟩ = some (.iface 96 (.int .i64 k)) :=
    World.cell?_setCell_same _ _ _ ((World.cell?_of_block (w := w3) (a := ⟨w.heap.size + 1 + 1, 0, none⟩) (RowKit.Below.heap_setCell _ _ _ _ (by simp))).trans c2)
  have hbF : RowKit.Below w.heap.size w ((w3.setCell ⟨w.heap.size + 1, 0, none⟩ (.slice none 0 0)).setCell ⟨w.heap.size + 1 + 1, 0, none⟩ (.iface 96 (.int .i64 k))) := (BW3.out.setCell (by simp) _).setCell (by show _ ≤ w.heap.size + 1 + 1; omega) _
  simp [bodyPostD, Leaves, results, Tryz.results19, go_sem, hcA, hcB, hbF]
set_option maxHeartbeats 6400000 in
theorem value_3 (x : Evl) (w : World) (h : VaIn x w) (h0 : entErr x.es = 0) (h00 : rqErr x.q = 0) (h1 : treeErr x.e ≠ 0) :
    Calls Tryz.prog 19 #[.slice x.Ea x.hs.length x.ec, .agg #[.string x.q.who.ty, .string x.q.who.id, .string x.q.act.ty, .string x.q.act.id, .string x.q.what.ty, .string x.q.what.id, .slice x.qa x.q.ctx.length x.qc], .slice x.ea x.e.length x.eca] w fun r w' => r = .returned (.tuple #[.slice none 0 0, errV (treeErr x.e)]) ∧ RowKit.Below w.heap.size w w' := by
  have hmf : ∀ (fn : Fn) (first cap : Array Value) (w : World), (Instr.makeFunc fn first cap).run Tryz.prog w = .ok (.func fn first cap) w := fun _ _ _ _ => rfl
  have HE := Lib.hid (fun W (hb : RowKit.Below w.heap.size w W) => ent_Check x.hs x.es x.Ea x.ec W (h.later hb).ents h.ec)
  have HA := Lib.hid (fun W (hb : RowKit.Below w.heap.size w W) => eval_Ask x.q x.qa x.qc W h.qz.1 h.qz.2.1 h.qz.2.2 h.qc.1 h.qc.2 h.qk (h.later hb).ctx)
  have HT := Lib.hid (fun W (hb : RowKit.Below w.heap.size w W) => tree_Check x.e x.ea x.eca W h.eca.1 h.eca.2 h.ek (h.later hb).ex)
  have HH := Lib.hid h
  have b0 : Blk (((w.alloc (.cells #[.string x.q.who.ty, .string x.q.who.id, .string x.q.act.ty, .string x.q.act.id, .string x.q.what.ty, .string x.q.what.id, .slice x.qa x.q.ctx.length x.qc] 39)).alloc (.cells #[.slice none 0 0] 22)).alloc (.cells #[.nilIface] 27)) w.heap.size 39 #[.string x.q.who.ty, .string x.q.who.id, .string x.q.act.ty, .string x.q.act.id, .string x.q.what.ty, .string x.q.what.id, .slice x.qa x.q.ctx.length x.qc] := ((Blk.new w _ _).alloc _).alloc _
  have b1 : Blk (((w.alloc (.cells #[.string x.q.who.ty, .string x.q.who.id, .string x.q.act.ty, .string x.q.act.id, .string x.q.what.ty, .string x.q.what.id, .slice x.qa x.q.ctx.length x.qc] 39)).alloc (.cells #[.slice none 0 0] 22)).alloc (.cells #[.nilIface] 27)) (w.heap.size + 1) 22 #[.slice none 0 0] := by
    have := (Blk.new (w.alloc (.cells #[.string x.q.who.ty, .string x.q.who.id, .string x.q.act.ty, .string x.q.act.id, .string x.q.what.ty, .string x.q.what.id, .slice x.qa x.q.ctx.length x.qc] 39)) 22 #[.slice none 0 0]).alloc (.cells #[.nilIface] 27)
    rwa [World.size_alloc] at this
  have b2 : Blk (((w.alloc (.cells #[.string x.q.who.ty, .string x.q.who.id, .string x.q.act.ty, .string x.q.act.id, .string x.q.what.ty, .string x.q.what.id, .slice x.qa x.q.ctx.length x.qc] 39)).alloc (.cells #[.slice none 0 0] 22)).alloc (.cells #[.nilIface] 27)) (w.heap.size + 1 + 1) 27 #[.nilIface] := by
    have := Blk.new ((w.alloc (.cells #[.string x.q.who.ty, .string x.q.who.id, .string x.q.act.ty, .string x.q.act.id, .string x.q.what.ty, .string x.q.what.id, .slice x.qa x.q.ctx.length x.qc] 39)).alloc (.cells #[.slice none 0 0] 22)) 27 #[.nilIface]
    rwa [World.size_alloc, World.size_alloc] at this
  have hb0 : RowKit.Below w.heap.size w (((w.alloc (.cells #[.string x.q.who.ty, .string x.q.who.id, .string x.q.act.ty, .string x.q.act.id, .string x.q.what.ty, .string x.q.what.id, .slice x.qa x.q.ctx.length x.qc] 39)).alloc (.cells #[.slice none 0 0] 22)).alloc (.cells #[.nilIface] 27)) := by (repeat (first | assumption | exact Below.refl _ _ | apply Below.drew | apply below_drewN | (refine Below.alloc ?_ (by first | exact Nat.le_refl _ | omega | (simp; done) | (simp; omega)) _)))
  have he0 : errV (entErr x.es) = .nilIface := by rw [h0]; rfl
  have he00 : errV (rqErr x.q) = .nilIface := by rw [h00]; rfl
  generalize treeErr x.e = k at h1 HT ⊢
  have he1 : errV k = .iface 96 (.int .i64 k) := by unfold errV; rw [if_neg h1]
  rw [he1]
  clear h1
  clear h
  go_enter_defers Tryz.func19, Tryz.ntmps19
  go_wp2_with fail
  generalize (((w.alloc (.cells #[.string x.q.who.ty, .string x.q.who.id, .string x.q.act.ty, .string x.q.act.id, .string x.q.what.ty, .string x.q.what.id, .slice x.qa x.q.ctx.length x.qc] 39)).alloc (.cells #[.slice none 0 0] 22)).alloc (.cells #[.nilIface] 27)) = w1 at b0 b1 b2 hb0 ⊢
  have B01 := Lib.hid b0
  have B11 := Lib.hid b1
  have B21 := Lib.hid b2
  have BW1 := Lib.hid hb0
  clear b0 b1 b2 hb0
  refine (HE.out w1 BW1.out).mono ?_
  rintro r w2 ⟨hr, hb2⟩
  rw [he0] at hr
  subst hr
  have B02 := Lib.hid (B01.out.below hb2 B01.out.lt)
  have B12 := Lib.hid (B11.out.below hb2 B11.out.lt)
  have B22 := Lib.hid (B21.out.below hb2 B21.out.lt)
  have BW2 := Lib.hid (BW1.out.trans (hb2.mono BW1.out.size))
  clear hb2
  have q20 : w2.cell? ⟨w.heap.size, 0, none⟩ = some (.string x.q.who.ty) := B02.out.cell 0
  have q21 : w2.cell? ⟨w.heap.size, 1, none⟩ = some (.string x.q.who.id) := B02.out.cell 1
  have q22 : w2.cell? ⟨w.heap.size, 2, none⟩ = some (.string x.q.act.ty) := B02.out.cell 2
  have q23 : w2.cell? ⟨w.heap.size, 3, none⟩ = some (.string x.q.act.id) := B02.out.cell 3
  have q24 : w2.cell? ⟨w.heap.size, 4, none⟩ = some (.string x.q.what.ty) := B02.out.cell 4
  have q25 : w2.cell? ⟨w.heap.size, 5, none⟩ = some (.string x.q.what.id) := B02.out.cell 5
  have q26 : w2.cell? ⟨w.heap.size, 6, none⟩ = some (.slice x.qa x.q.ctx.length x.qc) := B02.out.cell 6
  go_wp2_with fail
  refine (HA.out w2 BW2.out).mono ?_
  rintro r w3 ⟨hr, hb3⟩
  rw [he00] at hr
  subst hr
  have B03 := Lib.hid (B02.out.below hb3 B02.out.lt)
  have B13 := Lib.hid (B12.out.below hb3 B12.out.lt)
  have B23 := Lib.hid (B22.out.below hb3 B22.out.lt)
  have BW3 := Lib.hid (BW2.out.trans (hb3.mono BW2.out.size))
  clear hb3
  go_wp2_with fail
  refine (HT.out w3 BW3.out).mono ?_
  rintro r w4 ⟨hr, hb4⟩
  rw [he1] at hr
  subst hr
  have B04 := Lib.hid (B03.out.below hb4 B03.out.lt)
  have B14 := Lib.hid (B13.out.below hb4 B13.out.lt)
  have B24 := Lib.hid (B23.out.below hb4 B23.out.lt)
  have BW4 := Lib.hid (BW3.out.trans (hb4.mono BW3.out.size))
  clear hb4
  have c1 : w4.cell? ⟨w.heap.size + 1, 0, none⟩ = some (.slice none 0 0) := B14.out.cell 0
  have f1 : w4.frozen? ⟨w.heap.size + 1, 0, none⟩ = false := B14.out.frozen 0
  have c2 : w4.cell? ⟨w.heap.size + 1 + 1, 0, none⟩ = some .nilIface := B24.out.cell 0
  have f2 : w4.frozen? ⟨w.heap.size + 1 + 1, 0, none⟩ = false := B24.out.frozen 0
  clear he1 he0 he00
  go_wp2_with fail
  have hcA : (w4.setCell ⟨w.heap.size + 1, 0, none⟩ (.slice none 0 0)).cell? ⟨w.heap.size + 1, 0, none⟩ = some (.slice none 0 0) := World.cell?_setCell_same _ _ _ c1
  have hcB : ((w4.setCell ⟨w.heap.size + 1, 0, none⟩ (.slice none 0 0)).setCell ⟨w.heap.size + 1 + 1, 0, none⟩ (.iface 96 (.int .i64 k))).cell? ⟨w.heap.size + 1 + 1, 0, none⟩ = some (.iface 96 (.int .i64 k)) :=
    World.cell?_setCell_same _ _ _ ((World.cell?_of_block (w := w4) (a := ⟨w.heap.size + 1 + 1, 0, none⟩) (RowKit.Below.heap_setCell _ _ _ _ (by simp))).trans c2)
  have hbF : RowKit.Below w.heap.size w ((w4.setCell ⟨w.heap.size + 1, 0, none⟩ (.slice none 0 0)).setCell ⟨w.heap.size + 1 + 1, 0, none⟩ (.iface 96 (.int .i64 k))) := (BW4.out.setCell (by simp) _).setCell (by show _ ≤ w.heap.size + 1 + 1; omega) _
  simp [bodyPostD, Leaves, results, Tryz.results19, go_sem, hcA, hcB, hbF]
theorem VaIn.evin {x : Evl} {w w' : World} (h : VaIn x w) (h1 : entErr x.es = 0) (h2 : rqErr x.q = 0) (h3 : x.e.length ≤ 200) (hb : RowKit.Below w.heap.size w w') : EvIn x w.heap.size w' :=
  ⟨h.ents.sl.below hb, h.ents.ens.below hb, h.ents.uz, h.ents.pz, h.ents.az, h.ai, h.ec, h1, h.ctx.below hb, h.qc, h.qk, h.qi, h2, h.qz, h.ex.below hb, h.eca, h.ek, h.ei, h3, h.err.below hb h.err.lt, h.err.lt⟩
end Go.Proofs.YtpheiojmcafolaaGreatDoor
namespace Go.Proofs.YtpheiojmcafolaaGreatDoor
set_option maxRecDepth 100000
open Go.RowKit Go.Sort
set_option maxHeartbeats 6400000 in
theorem value_4 (x : Evl) (w : World) (h : VaIn x w) (h0 : entErr x.es = 0) (h00 : rqErr x.q = 0) (h1 : treeErr x.e = 0) (hf : FewIn x) :
    Calls Tryz.prog 19 #[.slice x.Ea x.hs.length x.ec, .agg #[.string x.q.who.ty, .string x.q.who.id, .string x.q.act.ty, .string x.q.act.id, .string x.q.what.ty, .string x.q.what.id, .slice x.qa x.q.ctx.length x.qc], .slice x.ea x.e.length x.eca] w fun r w' => (∀ v, evX x.es x.q x.e = .ok v → NdsNewE w r w' v 0) ∧ (∀ k, evX x.es x.q x.e = .bad k → r = .returned (.tuple #[.slice none 0 0, .iface 96 (.int .i64 k)]) ∧ RowKit.Below w.heap.size w w') := by
  have hmf : ∀ (fn : Fn) (first cap : Array Value) (w : World), (Instr.makeFunc fn first cap).run Tryz.prog w = .ok (.func fn first cap) w := fun _ _ _ _ => rfl
  have HE := Lib.hid (fun W (hb : RowKit.Below w.heap.size w W) => ent_Check x.hs x.es x.Ea x.ec W (h.later hb).ents h.ec)
  have HA := Lib.hid (fun W (hb : RowKit.Below w.heap.size w W) => eval_Ask x.q x.qa x.qc W h.qz.1 h.qz.2.1 h.qz.2.2 h.qc.1 h.qc.2 h.qk (h.later hb).ctx)
  have HT := Lib.hid (fun W (hb : RowKit.Below w.heap.size w W) => tree_Check x.e x.ea x.eca W h.eca.1 h.eca.2 h.ek (h.later hb).ex)
  have HH := Lib.hid h
  have b0 : Blk (((w.alloc (.cells #[.string x.q.who.ty, .string x.q.who.id, .string x.q.act.ty, .string x.q.act.id, .string x.q.what.ty, .string x.q.what.id, .slice x.qa x.q.ctx.length x.qc] 39)).alloc (.cells #[.slice none 0 0] 22)).alloc (.cells #[.nilIface] 27)) w.heap.size 39 #[.string x.q.who.ty, .string x.q.who.id, .string x.q.act.ty, .string x.q.act.id, .string x.q.what.ty, .string x.q.what.id, .slice x.qa x.q.ctx.length x.qc] := ((Blk.new w _ _).alloc _).alloc _
  have b1 : Blk (((w.alloc (.cells #[.string x.q.who.ty, .string x.q.who.id, .string x.q.act.ty, .string x.q.act.id, .string x.q.what.ty, .string x.q.what.id, .slice x.qa x.q.ctx.length x.qc] 39)).alloc (.cells #[.slice none 0 0] 22)).alloc (.cells #[.nilIface] 27)) (w.heap.size + 1) 22 #[.slice none 0 0] := by
    have := (Blk.new (w.alloc (.cells #[.string x.q.who.ty, .string x.q.who.id, .string x.q.act.ty, .string x.q.act.id, .string x.q.what.ty, .string x.q.what.id, .slice x.qa x.q.ctx.length x.qc] 39)) 22 #[.slice none 0 0]).alloc (.cells #[.nilIface] 27)
    rwa [World.size_alloc] at this
  have b2 : Blk (((w.alloc (.cells #[.string x.q.who.ty, .string x.q.who.id, .string x.q.act.ty, .string x.q.act.id, .string x.q.what.ty, .string x.q.what.id, .slice x.qa x.q.ctx.length x.qc] 39)).alloc (.cells #[.slice none 0 0] 22)).alloc (.cells #[.nilIface] 27)) (w.heap.size + 1 + 1) 27 #[.nilIface] := by
    have := Blk.new ((w.alloc (.cells #[.string x.q.who.ty, .string x.q.who.id, .string x.q.act.ty, .string x.q.act.id, .string x.q.what.ty, .string x.q.what.id, .slice x.qa x.q.ctx.length x.qc] 39)).alloc (.cells #[.slice none 0 0] 22)) 27 #[.nilIface]
    rwa [World.size_alloc, World.size_alloc] at this
  have hb0 : RowKit.Below w.heap.size w (((w.alloc (.cells #[.string x.q.who.ty, .string x.q.who.id, .string x.q.act.ty, .string x.q.act.id, .string x.q.what.ty, .string x.q.what.id, .slice x.qa x.q.ctx.length x.qc] 39)).alloc (.cells #[.slice none 0 0] 22)).alloc (.cells #[.nilIface] 27)) := by (repeat (first | assumption | exact Below.refl _ _ | apply Below.drew | apply below_drewN | (refine Below.alloc ?_ (by first | exact Nat.le_refl _ | omega | (simp; done) | (simp; omega)) _)))
  have he0 : errV (entErr x.es) = .nilIface := by rw [h0]; rfl
  have he00 : errV (rqErr x.q) = .nilIface := by rw [h00]; rfl
  have he1 : errV (treeErr x.e) = .nilIface := by rw [h1]; rfl
  obtain ⟨hl200, hex⟩ := (tree_iff x.e).1 h1
  have HNX := Lib.hid (fun W (hb : RowKit.Below w.heap.size w W) => (next_all x hf 200 x.e hl200 hl200 hex) 0 W.heap.size [] (W.alloc (.cells (x.cells 0) 99)) (by simp) ((h.later hb).evin h0 h00 hl200 ((RowKit.Below.refl _ W).alloc (Nat.le_refl _) _)) (Blk.new W _ _))
  have hvv : ∀ v, evX x.es x.q x.e = .ok v → v.length ≤ 200 ∧ v ≠ [] := fun v hv => by
    have hv0 : valErr v = 0 := evE_vx h00 x.e.length x.e hex hv
    have h2 := (val_iff v).1 hv0
    obtain ⟨y, r, e, _⟩ := h2.2.ne
    exact ⟨h2.1, by rw [e]; simp⟩
  have HVL := Lib.hid (fun v (hv : evX x.es x.q x.e = .ok v) => (hvv v hv).1)
  have HNE := Lib.hid (fun v (hv : evX x.es x.q x.e = .ok v) => (hvv v hv).2)
  obtain ⟨q, hq⟩ : ∃ q, q = evX x.es x.q x.e := ⟨_, rfl⟩
  rw [← hq] at HNX HVL HNE ⊢
  clear hvv hq h0 h00 h1 hf hl200 hex
  clear h
  go_enter_defers Tryz.func19, Tryz.ntmps19
  go_wp2_with fail
  generalize (((w.alloc (.cells #[.string x.q.who.ty, .string x.q.who.id, .string x.q.act.ty, .string x.q.act.id, .string x.q.what.ty, .string x.q.what.id, .slice x.qa x.q.ctx.length x.qc] 39)).alloc (.cells #[.slice none 0 0] 22)).alloc (.cells #[.nilIface] 27)) = w1 at b0 b1 b2 hb0 ⊢
  have B01 := Lib.hid b0
  have B11 := Lib.hid b1
  have B21 := Lib.hid b2
  have BW1 := Lib.hid hb0
  clear b0 b1 b2 hb0
  refine (HE.out w1 BW1.out).mono ?_
  rintro r w2 ⟨hr, hb2⟩
  rw [he0] at hr
  subst hr
  have B02 := Lib.hid (B01.out.below hb2 B01.out.lt)
  have B12 := Lib.hid (B11.out.below hb2 B11.out.lt)
  have B22 := Lib.hid (B21.out.below hb2 B21.out.lt)
  have BW2 := Lib.hid (BW1.out.trans (hb2.mono BW1.out.size))
  clear hb2
  have q20 : w2.cell? ⟨w.heap.size, 0, none⟩ = some (.string x.q.who.ty) := B02.out.cell 0
  have q21 : w2.cell? ⟨w.heap.size, 1, none⟩ = some (.string x.q.who.id) := B02.out.cell 1
  have q22 : w2.cell? ⟨w.heap.size, 2, none⟩ = some (.string x.q.act.ty) := B02.out.cell 2
  have q23 : w2.cell? ⟨w.heap.size, 3, none⟩ = some (.string x.q.act.id) := B02.out.cell 3
  have q24 : w2.cell? ⟨w.heap.size, 4, none⟩ = some (.string x.q.what.ty) := B02.out.cell 4
  have q25 : w2.cell? ⟨w.heap.size, 5, none⟩ = some (.string x.q.what.id) := B02.out.cell 5
  have q26 : w2.cell? ⟨w.heap.size, 6, none⟩ = some (.slice x.qa x.q.ctx.length x.qc) := B02.out.cell 6
  go_wp2_with fail
  refine (HA.out w2 BW2.out).mono ?_
  rintro r w3 ⟨hr, hb3⟩
  rw [he00] at hr
  subst hr
  have B03 := Lib.hid (B02.out.below hb3 B02.out.lt)
  have B13 := Lib.hid (B12.out.below hb3 B12.out.lt)
  have B23 := Lib.hid (B22.out.below hb3 B22.out.lt)
  have BW3 := Lib.hid (BW2.out.trans (hb3.mono BW2.out.size))
  clear hb3
  go_wp2_with fail
  refine (HT.out w3 BW3.out).mono ?_
  rintro r w4 ⟨hr, hb4⟩
  rw [he1] at hr
  subst hr
  have B04 := Lib.hid (B03.out.below hb4 B03.out.lt)
  have B14 := Lib.hid (B13.out.below hb4 B13.out.lt)
  have B24 := Lib.hid (B23.out.below hb4 B23.out.lt)
  have BW4 := Lib.hid (BW3.out.trans (hb4.mono BW3.out.size))
  clear hb4
  have q40 : w4.cell? ⟨w.heap.size, 0, none⟩ = some (.string x.q.who.ty) := B04.out.cell 0
  have q41 : w4.cell? ⟨w.heap.size, 1, none⟩ = some (.string x.q.who.id) := B04.out.cell 1
  have q42 : w4.cell? ⟨w.heap.size, 2, none⟩ = some (.string x.q.act.ty) := B04.out.cell 2
  have q43 : w4.cell? ⟨w.heap.size, 3, none⟩ = some (.string x.q.act.id) := B04.out.cell 3
  have q44 : w4.cell? ⟨w.heap.size, 4, none⟩ = some (.string x.q.what.ty) := B04.out.cell 4
  have q45 : w4.cell? ⟨w.heap.size, 5, none⟩ = some (.string x.q.what.id) := B04.out.cell 5
  have q46 : w4.cell? ⟨w.heap.size, 6, none⟩ = some (.slice x.qa x.q.ctx.length x.qc) := B04.out.cell 6
  clear he0 he00 he1
  go_wp2_with fail
  refine (HNX.out w4 BW4.out).mono ?_
  rintro r w6 ⟨g1, g2, ho6⟩
  have hz4 := BW4.out.size
  have hB16 : Blk w6 (w.heap.size + 1) 22 #[.slice none 0 0] := (B14.out.alloc _).only ho6 (by have := B14.out.lt; simp; omega) (by have := B14.out.lt; omega)
  have hB26 : Blk w6 (w.heap.size + 1 + 1) 27 #[.nilIface] := (B24.out.alloc _).only ho6 (by have := B24.out.lt; simp; omega) (by have := B24.out.lt; omega)
  have hbw6 : RowKit.Below w.heap.size w w6 := (BW4.out.alloc BW4.out.size _).trans (ho6.below (by simp; omega) (by omega))
  have c1 : w6.cell? ⟨w.heap.size + 1, 0, none⟩ = some (.slice none 0 0) := hB16.cell 0
  have f1 : w6.frozen? ⟨w.heap.size + 1, 0, none⟩ = false := hB16.frozen 0
  have c2 : w6.cell? ⟨w.heap.size + 1 + 1, 0, none⟩ = some .nilIface := hB26.cell 0
  have f2 : w6.frozen? ⟨w.heap.size + 1 + 1, 0, none⟩ = false := hB26.frozen 0
  have BW6 := Lib.hid hbw6
  have HB16 := Lib.hid hB16
  have HB26 := Lib.hid hB26
  clear hB16 hB26 hbw6
  cases q with
  | bad k =>
    have hr := g2 k rfl
    subst hr
    clear g1 g2 ho6
    go_wp2_with fail
    refine leaves_cons (f := 50) (args := #[.pointer (some ⟨w.heap.size + 1, 0, none⟩), .pointer (some ⟨w.heap.size + 1 + 1, 0, none⟩)]) (by simp) (by simp [go_sem]) ?_
    refine (ev_catch ⟨w.heap.size + 1, 0, none⟩ ⟨w.heap.size + 1 + 1, 0, none⟩ _ _ k _ c1 f1 c2 f2 (by simp)).mono ?_
    rintro e' u' w'' ⟨rfl, rfl, rfl⟩
    have hcA : (w6.setCell ⟨w.heap.size + 1, 0, none⟩ (.slice none 0 0)).cell? ⟨w.heap.size + 1, 0, none⟩ = some (.slice none 0 0) := World.cell?_setCell_same _ _ _ c1
    have hcB : ((w6.setCell ⟨w.heap.size + 1, 0, none⟩ (.slice none 0 0)).setCell ⟨w.heap.size + 1 + 1, 0, none⟩ (.iface 96 (.int .i64 k))).cell? ⟨w.heap.size + 1 + 1, 0, none⟩ = some (.iface 96 (.int .i64 k)) :=
      World.cell?_setCell_same _ _ _ ((World.cell?_of_block (w := w6) (a := ⟨w.heap.size + 1 + 1, 0, none⟩) (RowKit.Below.heap_setCell _ _ _ _ (by simp))).trans c2)
    have hbF : RowKit.Below w.heap.size w ((w6.setCell ⟨w.heap.size + 1, 0, none⟩ (.slice none 0 0)).setCell ⟨w.heap.size + 1 + 1, 0, none⟩ (.iface 96 (.int .i64 k))) := (BW6.out.setCell (by simp) _).setCell (by show _ ≤ w.heap.size + 1 + 1; omega) _
    simp [Leaves, settle, results, Tryz.results19, go_sem, hcA, hcB, hbF]
  | ok v =>
    obtain ⟨A, c, rfl, k1, k2, k3, -⟩ := g1 v rfl
    have HCL := Lib.hid (clone_value v A c w6 k3.sl (HVL.out v rfl))
    clear g1 g2 ho6
    go_wp2_with fail
    refine HCL.out.mono ?_
    rintro r w7 ⟨A7, c7, rfl, l1, l2, l3, hb7⟩
    have d1 : w7.cell? ⟨w.heap.size + 1, 0, none⟩ = some (.slice none 0 0) := (HB16.out.below hb7 HB16.out.lt).cell 0
    have e1 : w7.frozen? ⟨w.heap.size + 1, 0, none⟩ = false := (HB16.out.below hb7 HB16.out.lt).frozen 0
    have d2 : w7.cell? ⟨w.heap.size + 1 + 1, 0, none⟩ = some .nilIface := (HB26.out.below hb7 HB26.out.lt).cell 0
    have e2 : w7.frozen? ⟨w.heap.size + 1 + 1, 0, none⟩ = false := (HB26.out.below hb7 HB26.out.lt).frozen 0
    have BW7 := Lib.hid (BW6.out.trans (hb7.mono BW6.out.size))
    have L3 := Lib.hid l3
    clear l3 hb7
    go_wp2_with fail
    refine leaves_cons (f := 50) (args := #[.pointer (some ⟨w.heap.size + 1, 0, none⟩), .pointer (some ⟨w.heap.size + 1 + 1, 0, none⟩)]) (by simp) (by simp [go_sem]) ?_
    refine (ev_idle ⟨w.heap.size + 1, 0, none⟩ ⟨w.heap.size + 1 + 1, 0, none⟩ _).mono ?_
    rintro e' u' w'' ⟨rfl, rfl, rfl⟩
    have hcA7 : (w7.setCell ⟨w.heap.size + 1, 0, none⟩ (.slice A7 v.length c7)).cell? ⟨w.heap.size + 1, 0, none⟩ = some (.slice A7 v.length c7) := World.cell?_setCell_same _ _ _ d1
    have hcB7 : ((w7.setCell ⟨w.heap.size + 1, 0, none⟩ (.slice A7 v.length c7)).setCell ⟨w.heap.size + 1 + 1, 0, none⟩ .nilIface).cell? ⟨w.heap.size + 1 + 1, 0, none⟩ = some .nilIface :=
      World.cell?_setCell_same _ _ _ ((World.cell?_of_block (w := w7) (a := ⟨w.heap.size + 1 + 1, 0, none⟩) (RowKit.Below.heap_setCell _ _ _ _ (by simp))).trans d2)
    have hbF : RowKit.Below w.heap.size w ((w7.setCell ⟨w.heap.size + 1, 0, none⟩ (.slice A7 v.length c7)).setCell ⟨w.heap.size + 1 + 1, 0, none⟩ .nilIface) := (BW7.out.setCell (by simp) _).setCell (by show _ ≤ w.heap.size + 1 + 1; omega) _
    have hz6 : w.heap.size + 1 + 1 < w6.heap.size := HB26.out.lt
    have hN : NdsNewE w (.returned (.tuple #[.slice A7 v.length c7, errV 0])) ((w7.setCell ⟨w.heap.size + 1, 0, none⟩ (.slice A7 v.length c7)).setCell ⟨w.heap.size + 1 + 1, 0, none⟩ .nilIface) v 0 := by
      obtain ⟨b, o, e1', e2', e3', e4'⟩ := L3.out (fun b => b < w6.heap.size) (fun b h => h) (HNE.out v rfl)
      have hc : ∀ i, ((w7.setCell ⟨w.heap.size + 1, 0, none⟩ (.slice A7 v.length c7)).setCell ⟨w.heap.size + 1 + 1, 0, none⟩ .nilIface).cell? ⟨b, i, none⟩ = w7.cell? ⟨b, i, none⟩ := fun i =>
        World.cell?_of_block (w := w7) (a := ⟨b, i, none⟩) ((RowKit.Below.heap_setCell _ _ _ _ (by show b ≠ w.heap.size + 1 + 1; omega)).trans (RowKit.Below.heap_setCell _ _ _ _ (by show b ≠ w.heap.size + 1; omega)))
      refine ⟨A7, c7, rfl, l1, l2, fun _ => ⟨b, o, e1', by simpa [World.setCell] using e2', fun i y hy => ?_⟩, hbF, fun b' o' e => ?_⟩
      · obtain ⟨q0, q1, q2, q3⟩ := e4' i y hy
        exact ⟨(hc _).trans q0, (hc _).trans q1, (hc _).trans q2, (hc _).trans q3⟩
      · rw [e] at e1'; injection e1' with e1'; injection e1' with e1' _; omega
    simp [Leaves, settle, results, Tryz.results19, go_sem, hcA7, hcB7]
    exact hN
end Go.Proofs.YtpheiojmcafolaaGreatDoor
namespace Go.Proofs.YtpheiojmcafolaaGreatDoor
set_option maxRecDepth 100000
def BadNZ {α : Type} (r : Rs α) : Prop := ∀ k, r = .bad k → k ≠ 0
theorem nz_ok {α : Type} (v : α) : BadNZ (.ok v) := fun _ h => nomatch h
theorem nz_bad {α : Type} {k : Int} (h : k ≠ 0) : BadNZ (.bad k : Rs α) := fun j e => by injection e with e; rw [← e]; exact h
theorem nz_guard {α : Type} {k : Int} {b : Rs α} (hb : BadNZ b) : BadNZ (if k ≠ 0 then .bad k else b) := by
  by_cases h : k ≠ 0
  · rw [if_pos h]; exact nz_bad h
  · rw [if_neg h]; exact hb
theorem nz_ite {α : Type} {c : Prop} [Decidable c] {a b : Rs α} (ha : BadNZ a) (hb : BadNZ b) : BadNZ (if c then a else b) := by
  by_cases h : c
  · rw [if_pos h]; exact ha
  · rw [if_neg h]; exact hb
theorem nz_bind {α β : Type} {r : Rs α} {f : α → Rs β} (hr : BadNZ r) (hf : ∀ v, BadNZ (f v)) : BadNZ (r.bind f) := by
  cases r with
  | ok v => exact hf v
  | bad k => exact nz_bad (hr k rfl)
theorem nz_must {r : Rs (List Nd)} {op : Int} (h : BadNZ r) : BadNZ (mustV r op) := nz_bind h fun v => nz_ite (nz_ok _) (nz_bad (by decide))
theorem nz_num (op a b : Int) : BadNZ (numR op a b) := nz_ite (nz_ite (nz_ok _) (nz_bad (by decide))) (nz_ite (nz_ite (nz_ok _) (nz_bad (by decide))) (nz_ite (nz_ite (nz_ok _) (nz_bad (by decide))) (nz_bad (by decide))))
theorem nz_like (p s : List UInt8) : BadNZ (likeR p s) := nz_guard (nz_guard (nz_ok _))
theorem nz_parts (v : List Nd) : BadNZ (partsR v) := nz_guard (nz_ite (nz_ok _) (nz_ite (nz_ok _) (nz_bad (by decide))))
theorem nz_get (v : List Nd) (s : ByteArray) : BadNZ (getR v s) := fun _ h => getR_bad h
theorem nz_recOf (es : List En) (v : List Nd) : BadNZ (recOf es v) := fun _ h => by rw [recOf_bad h]; decide
theorem nz_set (vs : List (List Nd)) : BadNZ (setR vs) := fun _ h => set_bad h
theorem nz_rec (fs : List (ByteArray × List Nd)) : BadNZ (recR fs) := fun _ h => rec_bad h
theorem nz_single (es : List En) (x : Nd) (v : List Nd) : BadNZ (singleR es x v) :=
  nz_ite (nz_bind (nz_must (nz_ok _)) fun _ => nz_ok _) (nz_ite (nz_bind (nz_must (nz_ok _)) fun _ => nz_bind (nz_num _ _ _) fun _ => nz_ok _)
    (nz_ite (nz_bind (nz_must (nz_ok _)) fun _ => nz_bind (nz_like _ _) fun _ => nz_ok _) (nz_ite (nz_bind (nz_must (nz_ok _)) fun _ => nz_ok _)
      (nz_bind (nz_recOf _ _) fun r => by
        cases r with
        | none => exact nz_ite (nz_ok _) (nz_bad (by decide))
        | some r =>
          refine nz_ite ?_ (nz_get _ _)
          cases getR r x.s with
          | ok _ => exact nz_ok _
          | bad _ => exact nz_ok _))))
theorem nz_bagTwo (f : List (List Nd) → List (List Nd) → Bool) (a b : List Nd) : BadNZ (bagTwo f a b) := by
  unfold bagTwo
  repeat (first | exact nz_ok _ | exact nz_bad (by decide) | refine nz_guard ?_ | refine nz_ite ?_ ?_ | refine nz_bind (nz_parts _) fun _ => ?_)
theorem nz_bagHas (a b : List Nd) : BadNZ (bagHas a b) := by
  unfold bagHas
  repeat (first | exact nz_ok _ | exact nz_bad (by decide) | refine nz_guard ?_ | refine nz_ite ?_ ?_ | refine nz_bind (nz_parts _) fun _ => ?_)
theorem nz_in (es : List En) (a b : List Nd) : BadNZ (inR' es a b) :=
  nz_bind (nz_must (nz_ok _)) fun _ => nz_bind (nz_ite (nz_parts _) (nz_ok _)) fun _ => nz_ite (nz_ok _) (nz_bad (by decide))
theorem nz_double (es : List En) (op : Int) (a b : List Nd) : BadNZ (doubleR es op a b) :=
  nz_ite (nz_ok _) (nz_ite (nz_bind (nz_in _ _ _) fun _ => nz_ok _) (nz_ite (nz_bind (nz_bagHas _ _) fun _ => nz_ok _) (nz_ite (nz_bind (nz_bagTwo _ _ _) fun _ => nz_ok _) (nz_ite (nz_bind (nz_bagTwo _ _ _) fun _ => nz_ok _)
    (nz_bind (nz_must (nz_ok _)) fun _ => nz_bind (nz_must (nz_ok _)) fun _ => nz_ite (nz_ok _) (nz_ite (nz_ok _) (nz_bind (nz_num _ _ _) fun _ => nz_ok _)))))))
theorem nz_named (q : Rq) (s : List UInt8) : BadNZ (namedR q s) := nz_ite (nz_ok _) (nz_ite (nz_ok _) (nz_ite (nz_ok _) (nz_ite (nz_ok _) (nz_bad (by decide)))))
theorem nz_either {op : Int} {a b : Rs (List Nd)} (ha : BadNZ a) (hb : BadNZ b) : BadNZ (eitherR op a b) := nz_bind (nz_must ha) fun _ => nz_ite (nz_ok _) (nz_must hb)
theorem nz_choice {c a b : Rs (List Nd)} (hc : BadNZ c) (ha : BadNZ a) (hb : BadNZ b) : BadNZ (choiceR c a b) := nz_bind (nz_must hc) fun _ => nz_ite ha hb
theorem nz_all {α : Type} : ∀ {l : List (Rs α)}, (∀ r ∈ l, BadNZ r) → BadNZ (allR l)
  | [], _ => nz_ok _
  | r :: l, h => nz_bind (h r (by simp)) fun _ => nz_bind (nz_all fun q hq => h q (by simp [hq])) fun _ => nz_ok _
theorem nz_ev (es : List En) (q : Rq) : ∀ (N : Nat) (xs : List Nd), xs.length ≤ N → Ex (.one false) xs → BadNZ (evX es q xs)
  | 0, xs, hN, h => by
    obtain ⟨y, r, e, _⟩ := ex_ne h
    rw [e] at hN; simp at hN
  | N + 1, xs, hN, h => by
    cases h with
    | one n body _ hs h7 hb =>
      obtain ⟨ps, hc, hfl, hK⟩ := ex_pieces hb
      subst hfl
      have hex := exk_all hK
      have h7' : ¬ n.op = 7 := by simpa using h7
      rw [List.length_cons] at hN
      have hin : ∀ p ∈ ps, ¬ n.op = 6 → Ex (.one false) p := fun p hp h6 => by
        have := hex p hp
        rwa [show (n.op == 6) = false by simp [h6]] at this
      have ih : ¬ n.op = 6 → ∀ p ∈ ps, BadNZ (evX es q p) := fun h6 p hp => by
        have := part_le hp
        exact nz_ev es q N p (by omega) (hin p hp h6)
      have hcase : (n.op = 1 ∨ n.op = 2 ∨ n.op = 3 ∨ n.op = 4 ∨ n.op = 8) ∧ ps.length = 0 ∨ (n.op = 5 ∨ n.op = 6) ∧ n.n = ps.length ∨ (n.op = 9 ∨ n.op = 10 ∨ n.op = 21 ∨ n.op = 22 ∨ n.op = 23 ∨ n.op = 24) ∧ ps.length = 1 ∨
          (n.op = 11 ∨ n.op = 12 ∨ n.op = 14 ∨ n.op = 15 ∨ n.op = 16 ∨ n.op = 17 ∨ n.op = 18 ∨ n.op = 19 ∨ n.op = 20 ∨ n.op = 25 ∨ n.op = 26 ∨ n.op = 27) ∧ ps.length = 2 ∨ n.op = 13 ∧ ps.length = 3 := by
        unfold ndParts at hc
        unfold shapedT at hs
        by_cases a1 : n.op = 1 ∨ n.op = 2 ∨ n.op = 3 ∨ n.op = 4 ∨ n.op = 8
        · rw [if_pos a1] at hc; left; exact ⟨a1, by simpa using hc⟩
        rw [if_neg a1] at hc
        by_cases a2 : n.op = 5 ∨ n.op = 6
        · rw [if_pos a2] at hc
          rw [if_neg (by omega), if_pos a2] at hs
          simp only [Bool.and_eq_true, decide_eq_true_eq] at hs
          right; left; exact ⟨a2, by have := hs.1.1; omega⟩
        rw [if_neg a2] at hc
        by_cases a3 : n.op = 7 ∨ n.op = 9 ∨ n.op = 10 ∨ n.op = 21 ∨ n.op = 22 ∨ n.op = 23 ∨ n.op = 24
        · rw [if_pos a3] at hc; right; right; left; exact ⟨by omega, by simpa using hc⟩
        rw [if_neg a3] at hc
        by_cases a4 : n.op = 11 ∨ n.op = 12 ∨ n.op = 14 ∨ n.op = 15 ∨ n.op = 16 ∨ n.op = 17 ∨ n.op = 18 ∨ n.op = 19 ∨ n.op = 20 ∨ n.op = 25 ∨ n.op = 26 ∨ n.op = 27
        · rw [if_pos a4] at hc; right; right; right; left; exact ⟨a4, by simpa using hc⟩
        rw [if_neg a4] at hc
        by_cases a5 : n.op = 13
        · rw [if_pos a5] at hc; right; right; right; right; exact ⟨a5, by simpa using hc⟩
        · exfalso
          rw [if_neg (by omega), if_neg a2, if_neg (by omega), if_neg (by omega), if_neg (by omega)] at hs
          simp only [Bool.and_eq_true, decide_eq_true_eq] at hs
          have h1 := hs.1.1.1
          unfold ndParts at h1
          rw [if_neg a1, if_neg a2, if_neg a3, if_neg a4, if_neg a5] at h1
          omega
      rcases hcase with ⟨ho, hlen⟩ | ⟨ho, hn⟩ | ⟨ho, hlen⟩ | ⟨ho, hlen⟩ | ⟨ho, hlen⟩
      · obtain rfl := List.eq_nil_of_length_eq_zero hlen
        rw [List.flatten_nil]
        rcases (show (n.op = 1 ∨ n.op = 2 ∨ n.op = 3 ∨ n.op = 4) ∨ n.op = 8 by omega) with e | e
        · rw [evX_leaf es q e]; exact nz_ok _
        · rw [evX_var es q e]; exact nz_named _ _
      · rw [evX_node es q hex]
        unfold nodeR
        rw [if_neg (by omega), if_neg (by omega)]
        by_cases h6 : n.op = 6
        · rw [show (n.op == 5) = false by simp [h6], show (n.op == 6) = true by simp [h6]]
          refine nz_bind (nz_all fun r hr => ?_) fun _ => nz_rec _
          obtain ⟨p, hp, rfl⟩ := List.mem_map.1 hr
          have h1 := hex p hp
          rw [show (n.op == 6) = true by simp [h6]] at h1
          obtain ⟨g1, g2⟩ := fld_tail h1
          have := part_le hp
          exact nz_ev es q N p.tail (by omega) g1
        · have h5 : n.op = 5 := by omega
          rw [show (n.op == 5) = true by simp [h5], show (n.op == 6) = false by simp [h6]]
          refine nz_bind (nz_all fun r hr => ?_) fun _ => nz_set _
          obtain ⟨p, hp, rfl⟩ := List.mem_map.1 hr
          exact ih h6 p hp
      · match ps, hlen with
        | [a], _ =>
          have h6 : ¬ n.op = 6 := by omega
          rw [show [a].flatten = a by simp, evX_one es q ho (hin a (by simp) h6)]
          exact nz_bind (ih h6 a (by simp)) fun _ => nz_single _ _ _
      · match ps, hlen with
        | [a, b], _ =>
          have h6 : ¬ n.op = 6 := by omega
          rw [show [a, b].flatten = a ++ b by simp]
          by_cases h11 : n.op = 11 ∨ n.op = 12
          · rw [evX_and es q h11 (hin a (by simp) h6) (hin b (by simp) h6)]
            exact nz_either (ih h6 a (by simp)) (ih h6 b (by simp))
          · rw [evX_two es q (by omega) (hin a (by simp) h6) (hin b (by simp) h6)]
            exact nz_bind (ih h6 a (by simp)) fun _ => nz_bind (ih h6 b (by simp)) fun _ => nz_double _ _ _ _
      · match ps, hlen with
        | [c, a, b], _ =>
          have h6 : ¬ n.op = 6 := by omega
          rw [show [c, a, b].flatten = c ++ (a ++ b) by simp, evX_if es q ho (hin c (by simp) h6) (hin a (by simp) h6) (hin b (by simp) h6)]
          exact nz_choice (ih h6 c (by simp)) (ih h6 a (by simp)) (ih h6 b (by simp))
end Go.Proofs.YtpheiojmcafolaaGreatDoor
namespace Go.Proofs.YtpheiojmcafolaaGreatDoor
set_option maxRecDepth 100000
open Go.RowKit Go.Sort
theorem few_of {e : List Nd} (h0 : treeErr e = 0) : ∀ y ∈ e, 0 ≤ ndParts y ∧ ndParts y ≤ 200 := fun y hy => by
  obtain ⟨j, hj⟩ := List.getElem?_of_mem hy
  obtain ⟨s, hs, hsl⟩ := tree_at h0 hj
  obtain ⟨_, _, q1, q2⟩ := bGo_parts hs hj
  have := (tree_len h0).1
  omega
theorem eval_Value (x : Evl) (w : World) (h : VaIn x w) :
    Calls Tryz.prog 19 #[.slice x.Ea x.hs.length x.ec, .agg #[.string x.q.who.ty, .string x.q.who.id, .string x.q.act.ty, .string x.q.act.id, .string x.q.what.ty, .string x.q.what.id, .slice x.qa x.q.ctx.length x.qc], .slice x.ea x.e.length x.eca] w fun r w' => NdsNewE w r w' (rsL (valueR x.es x.q x.e)) (rsE (valueR x.es x.q x.e)) := by
  unfold valueR
  by_cases h1 : entErr x.es = 0
  case neg =>
    rw [if_pos h1]
    refine (value_1 x w h h1).mono ?_
    rintro r w' ⟨rfl, hb⟩
    exact NdsNewE.none hb
  rw [if_neg (by simp [h1])]
  by_cases h2 : rqErr x.q = 0
  case neg =>
    rw [if_pos h2]
    refine (value_2 x w h h1 h2).mono ?_
    rintro r w' ⟨rfl, hb⟩
    exact NdsNewE.none hb
  rw [if_neg (by simp [h2])]
  by_cases h3 : treeErr x.e = 0
  case neg =>
    rw [if_pos h3]
    refine (value_3 x w h h1 h2 h3).mono ?_
    rintro r w' ⟨rfl, hb⟩
    exact NdsNewE.none hb
  rw [if_neg (by simp [h3])]
  refine (value_4 x w h h1 h2 h3 (few_of h3)).mono ?_
  rintro r w' ⟨g1, g2⟩
  have hne : ∀ k, evE x.es x.q x.e.length x.e = .bad k → k ≠ 0 := fun k hk => nz_ev x.es x.q _ x.e (Nat.le_refl _) ((tree_iff x.e).1 h3).2 k hk
  cases hq : evE x.es x.q x.e.length x.e with
  | ok v => exact g1 v hq
  | bad k =>
    obtain ⟨rfl, hb⟩ := g2 k hq
    have := NdsNewE.none (k := k) hb
    unfold errV at this
    rw [if_neg (hne k hq)] at this
    exact this
end Go.Proofs.YtpheiojmcafolaaGreatDoor
namespace Go.Proofs.YtpheiojmcafolaaGreatDoor
open Go.RowKit Go.Sort
set_option maxHeartbeats 800000 in
theorem same_Nodes (xs : List Nd) (A1 A2 : Option Addr) (c1 c2 : Nat) (w : World) (h1 : NdSl w w.heap.size A1 xs) (h2 : NdSl w w.heap.size A2 xs) (l1 : xs.length ≤ 9223372036854775807) :
    Calls Tryz.prog 20 #[.slice A1 xs.length c1, .slice A2 xs.length c2] w fun r w' => r = .returned (.bool true) ∧ RowKit.Below w.heap.size w w' := by
  have H1 := Lib.hid h1
  have H2 := Lib.hid h2
  have hne : ((xs.length : Int) != (xs.length : Int)) = false := by simp
  clear h1 h2
  go_enter Tryz.func20, Tryz.ntmps20
  go_wp2_with fail
  go_loopw [5] (fun kk wr => ∃ k : Nat, kk = .int .i64 k ∧ k ≤ xs.length ∧ RowKit.Below w.heap.size w wr) (fun kk _ => xs.length - (intOf kk).toNat)
  case atStart => exact ⟨0, rfl, by omega, RowKit.Below.refl _ _⟩
  case round =>
    obtain ⟨k, rfl, hk, hbr⟩ := hrel
    by_cases hlt : k < xs.length
    · obtain ⟨b, o, rfl, hb, hcs⟩ := (H1.out.below hbr).at_ hlt
      obtain ⟨b2, o2, rfl, hb2, hcs2⟩ := (H2.out.below hbr).at_ hlt
      obtain ⟨x, hx⟩ : ∃ x, xs[k]? = some x := ⟨_, List.getElem?_eq_getElem hlt⟩
      obtain ⟨d0, d1, d2, d3⟩ := hcs k x hx
      obtain ⟨f0, f1, f2, f3⟩ := hcs2 k x hx
      clear hcs hcs2 hx
      go_wp2_with fail
      go_quiet (fail)
      go_wp2_with fail
      exact ⟨⟨k + 1, by go_num, by omega, below_drewN hbr _⟩, by simp [intOf]; omega⟩
    · go_wp2_with fail
      go_ret
      exact ⟨rfl, hbr⟩
end Go.Proofs.YtpheiojmcafolaaGreatDoor
namespace Go.Proofs.YtpheiojmcafolaaGreatDoor
set_option maxRecDepth 100000
open Go.RowKit Go.Sort
/-- A cell that is read, in a later world. -/
def RdS (b i : Nat) (v : Value) (w1 W : World) : Prop := W.cell? ⟨b, i, none⟩ = some v ∧ RowKit.Below w1.heap.size w1 W
theorem RdS.keep {b i : Nat} {v : Value} {w1 W W' : World} (h : RdS b i v w1 W) (hb : RowKit.Below W.heap.size W W') (hl : b < w1.heap.size) : RdS b i v w1 W' :=
  ⟨(hb.cell (p := ⟨b, i, none⟩) (by have := h.2.size; show b < W.heap.size; omega)).trans h.1, h.2.trans (hb.mono h.2.size)⟩
theorem bit_of (r j : Nat) : (((r / 2 ^ j : Nat) : Int).tmod 2 == 1) = r.testBit j := by
  rw [Nat.testBit_eq_decide_div_mod_eq]
  generalize r / 2 ^ j = t
  rw [Int.tmod_eq_emod_of_nonneg (by omega)]
  rw [Bool.eq_iff_iff, beq_iff_eq, decide_eq_true_eq]
  omega
theorem half_of (r j : Nat) (h : r ≤ 1000) : wrap64 (((r / 2 ^ j : Nat) : Int) / 2) = ((r / 2 ^ (j + 1) : Nat) : Int) := by
  have h1 : r / 2 ^ j ≤ r := Nat.div_le_self _ _
  rw [Nat.pow_succ, ← Nat.div_div_eq_div_mul]
  generalize r / 2 ^ j = t at h1 ⊢
  rw [IntWalk.wrap64_in _ ⟨by omega, by omega⟩]
  omega
def udA : Ud := ⟨⟨#[65]⟩, ⟨#[]⟩⟩
def recN : Nd := ⟨6, 0, ⟨#[]⟩, ⟨#[]⟩⟩
def rqA0 : Rq := ⟨udA, udA, udA, [recN]⟩
theorem rq_A : rqErr rqA0 = 0 := by
  simp [rqErr, rqA0, udA, udErr, recN, nameErr, textErr, valErr, vGo, shapedV, opH, nameB, letterI, digitI, ByteArray.toList_mk]
theorem ents_none (w : World) : EntsIn w none [] [] := ⟨SlG.nil _ _ _, ⟨rfl, by simp⟩, by simp, by simp, by simp⟩
theorem ent_none : entErr [] = 0 := by simp [entErr, fnz, cycB]
theorem rq_va {w : World} {qa : Option Addr} {qc : Nat} {L : List Nd} {Ax : Option Addr} {cx : Nat} (hg : ErrCell w) (h1 : NdSl w w.heap.size qa [recN]) (h2 : 1 ≤ qc ∧ qc ≤ 9223372036854775807) (h3 : NdSl w w.heap.size Ax L) (h4 : L.length ≤ cx ∧ cx ≤ 9223372036854775807) (h5 : NdOk L) (h6 : NdI L) :
    VaIn ⟨[], [], none, 0, rqA0, qa, qc, L, Ax, cx⟩ w := by
  have hr : NdOk [recN] := by intro x hx; simp at hx; subst hx; exact ⟨Nat.zero_le _, Nat.zero_le _⟩
  have hri : NdI [recN] := by intro x hx; simp at hx; subst hx; unfold I64 recN; simp
  have hu : UdOk udA := ⟨by simp [udA, ByteArray.size], Nat.zero_le _⟩
  exact ⟨ents_none w, by simp, Nat.le_refl _, h1, h2, hr, hri, ⟨hu, hu, hu⟩, h3, h4, h5, h6, hg⟩
theorem val_row {f : Fm} {ss : List (List UInt8)} {r : Nat} {L : List Nd} (hn : ss.Nodup) (h : RowAt f ss r ss L) : valueR [] rqA0 L = .ok [bN (f.ev (vB ss noneV r))] := by
  unfold valueR
  rw [if_neg (by simp [ent_none]), if_neg (by simp [rq_A]), if_neg (by simp [h.tree])]
  exact row_means [] rqA0 hn h
theorem row_i64 {f : Fm} {ss rr : List (List UInt8)} {r : Nat} {L : List Nd} (h : RowAt f ss r rr L) : NdI L := by
  obtain ⟨g, hg, rfl, _⟩ := h.ex
  exact tree_i64 h.tree fun x hx h2 => absurd h2 (fm_ops hg x hx)
set_option maxHeartbeats 12800000 in
theorem law_tmeans (e : List Nd) (A : Option Addr) (c : Nat) (ss : List (List UInt8)) (An : Option Addr) (cn : Nat) (row : Int) (w : World) (hg : ErrCell w) (hc : e.length ≤ c) (hcm : c ≤ 9223372036854775807) (hok : NdOk e) (hsl : NdSl w w.heap.size A e) (hss : StrSl w w.heap.size An ss) (hn : ss.length ≤ cn) (hcn : cn ≤ 9223372036854775807) :
    Calls Tryz.prog 3 #[.slice A e.length c, .slice An ss.length cn, .int .i64 row] w fun r w' => r = .returned (.bool true) ∧ RowKit.Below w.heap.size w w' := by
  have HT := Lib.hid (fun W (hW : RowKit.Below w.heap.size w W) => truth_Table e A c ss An cn W hc hcm hok ((hsl.below hW).more hW.size) ((hss.below hW).more hW.size) hn hcn)
  have hlt := hg.lt
  by_cases hk : frmErr e ss = 0
  case neg =>
    have HR : (tableP e ss).1 = [] := by unfold tableP; rw [if_pos hk]
    rw [HR] at HT
    have tk : (frmErr e ss != 0) = true := by simpa using hk
    clear hok hsl hss hg
    generalize frmErr e ss = k at HT tk
    clear hk HR
    go_enter Tryz.func3, Tryz.ntmps3
    go_wp2_with fail
    refine (law_tabled w).mono ?_
    rintro r w1 ⟨rfl, hw1⟩
    go_wp2_with fail
    refine (HT.out _ hw1).mono ?_
    rintro r w2 ⟨A2, c2, rfl, _, _, _, hb2⟩
    go_wp2_with fail
    go_ret
    exact ⟨rfl, hw1.trans (hb2.mono hw1.size)⟩
  have hT : (tableP e ss).1 = tabB (evL e) ss := by unfold tableP; rw [if_neg (by simp [hk])]
  have hTl : (tabB (evL e) ss).length = 2 ^ ss.length := tabB_len _ _
  rw [hT, hk] at HT
  by_cases hneg : row < 0
  · clear hok hsl hss hg hT hk
    generalize tabB (evL e) ss = T at HT hTl
    go_enter Tryz.func3, Tryz.ntmps3
    go_wp2_with fail
    refine (law_tabled w).mono ?_
    rintro r w1 ⟨rfl, hw1⟩
    go_wp2_with fail
    refine (HT.out _ hw1).mono ?_
    rintro r w2 ⟨A2, c2, rfl, _, _, _, hb2⟩
    clear hTl
    go_wp2_with fail
    go_ret
    exact ⟨rfl, hw1.trans (hb2.mono hw1.size)⟩
  by_cases hbig : ((tabB (evL e) ss).length : Int) ≤ row
  · clear hok hsl hss hg hT hk hTl
    generalize tabB (evL e) ss = T at HT hbig
    go_enter Tryz.func3, Tryz.ntmps3
    go_wp2_with fail
    refine (law_tabled w).mono ?_
    rintro r w1 ⟨rfl, hw1⟩
    go_wp2_with fail
    refine (HT.out _ hw1).mono ?_
    rintro r w2 ⟨A2, c2, rfl, _, _, _, hb2⟩
    go_wp2_with fail
    go_ret
    exact ⟨rfl, hw1.trans (hb2.mono hw1.size)⟩
  obtain ⟨r, rfl⟩ : ∃ r : Nat, row = r := ⟨row.toNat, by omega⟩
  obtain ⟨f, hf, he⟩ := frm_fm hk
  obtain ⟨hk1, hk2⟩ := frm_ok.1 hk
  obtain ⟨h6, hnd, _, _⟩ := atoms_ok.1 hk2
  have H0 := Lib.hid (rowAt_zero hf he hk1 hk2 r)
  have hrT : r < (tabB (evL e) ss).length := by omega
  have hpow : 2 ^ ss.length ≤ 2 ^ 6 := Nat.pow_le_pow_right (by omega) h6
  have hr64 : r ≤ 1000 := by omega
  have HTR : Hid ((tabB (evL e) ss)[r]? = some (f.ev (vB ss noneV r))) := by
    show _ = _
    unfold tabB
    rw [List.getElem?_map, List.getElem?_range (by omega), Option.map_some, he, evL_enc _ hf]
  have HND := Lib.hid hnd
  have HG := Lib.hid hg
  have HSS := Lib.hid hss
  have HSL := Lib.hid hsl
  have HU := Lib.hid r3_Truth
  clear hok hsl hss hT hk hk1 hk2 hnd hf he hg hTl hpow
  generalize tabB (evL e) ss = T at HT HTR hrT hbig
  have d1 : decide ((r : Int) < 0) = false := by simp
  have d2 : decide ((T.length : Int) ≤ (r : Int)) = false := by simp; omega
  have d3 : decide (T.length ≤ r) = false := by simp; omega
  clear hneg hbig
  go_enter Tryz.func3, Tryz.ntmps3
  go_wp2_with fail
  refine (law_tabled w).mono ?_
  rintro r1 w1 ⟨rfl, hw1⟩
  go_wp2_with fail
  refine (HT.out _ hw1).mono ?_
  rintro r2 w2 ⟨A2, c2, rfl, _, _, hs2, hb2⟩
  have hw2 : RowKit.Below w.heap.size w w2 := hw1.trans (hb2.mono hw1.size)
  have HS2 := Lib.hid hs2
  clear hb2 hs2 HT
  go_wp2_with fail
  go_loopw [10, 11, 12] (fun xv bv kv wr => ∃ (t : Nat) (q : Int) (L : List Nd) (Ax : Option Addr) (cx : Nat), t ≤ ss.length ∧ q + 1 = t ∧ kv = .int .i64 q ∧ xv = .slice Ax L.length cx ∧ bv = .int .i64 ((r / 2 ^ (ss.length - t) : Nat) : Int) ∧ Hid (RowAt f ss r (ss.drop t) L) ∧ Hid (NsGood wr wr.heap.size ⟨Ax, cx, L⟩) ∧ RowKit.Below w2.heap.size w2 wr) (fun _ _ kv _ => (intOf kv + 1).toNat)
  case atStart => exact ⟨ss.length, (ss.length : Int) - 1, e, A, c, Nat.le_refl _, by omega, by go_num, rfl, by rw [Nat.sub_self, Nat.pow_zero, Nat.div_one], by rw [List.drop_length]; exact H0, Lib.hid ⟨(HSL.out.below hw2).more hw2.size, hc, hcm⟩, RowKit.Below.refl _ _⟩
  case round =>
    obtain ⟨t, q, L, Ax, cx, ht, hq, rfl, rfl, rfl, HRA, HGx, hbr⟩ := hrel
    have hzr := hbr.size
    have hwr : RowKit.Below w.heap.size w wr := hw2.trans (hbr.mono hw2.size)
    by_cases h0 : t = 0
    · subst h0
      obtain rfl : q = -1 := by omega
      have HVR := Lib.hid (val_row HND.out (by have := HRA.out; rwa [List.drop_zero] at this))
      have HLI := Lib.hid (row_i64 HRA.out)
      have HLT := Lib.hid (tree_ok HRA.out.tree)
      generalize f.ev (vB ss noneV r) = B at HVR HTR
      have HVC : Hid (∀ W, RowKit.Below wr.heap.size wr W → ∀ qa qc, NdSl W W.heap.size qa [recN] → 1 ≤ qc ∧ qc ≤ 9223372036854775807 → Calls Tryz.prog 19 #[.slice none 0 0, .agg #[.string ⟨#[65]⟩, .string ⟨#[]⟩, .string ⟨#[65]⟩, .string ⟨#[]⟩, .string ⟨#[65]⟩, .string ⟨#[]⟩, .slice qa 1 qc], .slice Ax L.length cx] W fun r w' => NdsNewE W r w' [bN B] 0) := by
        intro W hW qa qc h1 h2
        have h := eval_Value ⟨[], [], none, 0, rqA0, qa, qc, L, Ax, cx⟩ W (rq_va (HG.out.below (hwr.trans (hW.mono hwr.size)) hlt) h1 h2 (HGx.out.later hW).sl ⟨HGx.out.le, HGx.out.max⟩ HLT.out HLI.out)
        have e : valueR (⟨[], [], none, 0, rqA0, qa, qc, L, Ax, cx⟩ : Evl).es (⟨[], [], none, 0, rqA0, qa, qc, L, Ax, cx⟩ : Evl).q (⟨[], [], none, 0, rqA0, qa, qc, L, Ax, cx⟩ : Evl).e = .ok [bN B] := HVR.out
        rw [e] at h
        exact h
      have HSN := Lib.hid (fun W A1 A2 c1 c2 (h1 : NdSl W W.heap.size A1 [bN B]) (h2 : NdSl W W.heap.size A2 [trN B]) => same_Nodes [bN B] A1 A2 c1 c2 W h1 h2 (by simp))
      clear HRA HVR HLI HLT HSS HSL H0 HND
      have hrn : NdSl ((wr.alloc (.cells #[.string ⟨#[65]⟩, .string ⟨#[]⟩] 34)).alloc (.cells #[.int .i64 6, .int .i64 0, .string ⟨#[]⟩, .string ⟨#[]⟩] 37)) ((wr.alloc (.cells #[.string ⟨#[65]⟩, .string ⟨#[]⟩] 34)).alloc (.cells #[.int .i64 6, .int .i64 0, .string ⟨#[]⟩, .string ⟨#[]⟩] 37)).heap.size (some ⟨wr.heap.size + 1, 0, none⟩) [recN] := by
        have h := nds_new (wr.alloc (.cells #[.string ⟨#[65]⟩, .string ⟨#[]⟩] 34)) 37 [recN] #[.int .i64 6, .int .i64 0, .string ⟨#[]⟩, .string ⟨#[]⟩] rfl
        rwa [show (wr.alloc (.cells #[.string ⟨#[65]⟩, .string ⟨#[]⟩] 34)).heap.size = wr.heap.size + 1 from World.size_alloc _ _] at h
      have h02 : RowKit.Below wr.heap.size wr ((wr.alloc (.cells #[.string ⟨#[65]⟩, .string ⟨#[]⟩] 34)).alloc (.cells #[.int .i64 6, .int .i64 0, .string ⟨#[]⟩, .string ⟨#[]⟩] 37)) := by (repeat (first | assumption | exact Below.refl _ _ | apply Below.drew | apply below_drewN | (refine Below.alloc ?_ (by first | exact Nat.le_refl _ | omega | (simp; done) | (simp; omega)) _)))
      have HCA := Lib.hid (HVC.out ((wr.alloc (.cells #[.string ⟨#[65]⟩, .string ⟨#[]⟩] 34)).alloc (.cells #[.int .i64 6, .int .i64 0, .string ⟨#[]⟩, .string ⟨#[]⟩] 37)) h02 (some ⟨wr.heap.size + 1, 0, none⟩) 1 hrn ⟨Nat.le_refl _, by omega⟩)
      have HB2 := Lib.hid h02
      clear hrn h02 HVC
      go_wp2_with fail
      refine HCA.out.mono ?_
      rintro r3 w5 ⟨A5, c5, rfl, hl5, hm5, hs5, hb5, -⟩
      have h05 : RowKit.Below wr.heap.size wr w5 := HB2.out.trans (hb5.mono HB2.out.size)
      have hw5 : RowKit.Below w2.heap.size w2 w5 := hbr.trans (h05.mono hzr)
      obtain ⟨b2, o2, rfl, hb2, ct⟩ := boSl_at ((HS2.out.below hw5).more hw5.size) HTR.out
      have HV5 := Lib.hid hs5
      have hb2w : b2 < w5.heap.size := hb2
      have h1l : ([bN B] : List Nd).length = 1 := rfl
      rw [h1l]
      clear hl5 hm5 hs5 hb5 h1l HCA HB2
      go_wp2_with fail
      refine (HU.out B w5).mono ?_
      rintro r4 w6 ⟨A6, c6, rfl, g6, hb6⟩
      have HV6 := Lib.hid ((HV5.out.below hb6).more hb6.size)
      have HG6 := Lib.hid g6.sl
      have hw6 := hw5.trans (hb6.mono hw5.size)
      clear g6 hb6
      go_wp2_with fail
      refine (HSN.out w6 A5 A6 c5 c6 HV6.out HG6.out).mono ?_
      rintro r5 w7 ⟨rfl, hb7⟩
      go_wp2_with fail
      go_ret
      exact ⟨rfl, hw2.trans ((hw6.trans (hb7.mono hw6.size)).mono hw2.size)⟩
    · obtain ⟨i, rfl⟩ : ∃ i, t = i + 1 := ⟨t - 1, by omega⟩
      obtain rfl : q = (i : Int) := by omega
      obtain ⟨x, hx⟩ : ∃ x, ss[i]? = some x := ⟨_, List.getElem?_eq_getElem (by omega)⟩
      obtain ⟨b, o, hAn, hb, hcs⟩ := (HSS.out.below hwr).at_ (show i < ss.length by omega)
      subst hAn
      have c0 : wr.cell? ⟨b, o + i, none⟩ = some (.string (bsL x)) := hcs i x hx
      have hbw : b < wr.heap.size := by have := hwr.size; omega
      have hjl : (ss.drop (i + 1)).length = ss.length - (i + 1) := List.length_drop
      obtain ⟨hp1, hp2⟩ := rowAt_step HRA.out (s := bsL x)
      rw [hjl] at hp1 hp2
      have hdr : (bsL x).toList :: ss.drop (i + 1) = ss.drop i := by
        rw [List.drop_eq_getElem_cons (show i < ss.length by omega), bsL_toList]
        congr 1
        exact (Option.some.inj ((List.getElem?_eq_getElem (by omega)).symm.trans hx)).symm
      rw [hdr] at hp2
      have HB := bit_of r (ss.length - (i + 1))
      have HH := half_of r (ss.length - (i + 1)) hr64
      rw [show ss.length - (i + 1) + 1 = ss.length - i by omega] at HH
      have HPT : Hid (∀ W, RowKit.Below wr.heap.size wr W → ∀ A' c', NsGood W W.heap.size ⟨A', c', [trN (r.testBit (ss.length - (i + 1)))]⟩ → Calls Tryz.prog 17 #[.slice Ax L.length cx, .string (bsL x), .slice A' 1 c'] W fun r' w' => NdsBack W r' w' (putL L (bsL x) [trN (r.testBit (ss.length - (i + 1)))]) 0) := by
        intro W hW A' c' g
        have h := tree_Put L [trN (r.testBit (ss.length - (i + 1)))] (bsL x) Ax A' cx c' W HGx.out.le HGx.out.max (tree_ok HRA.out.tree) (HGx.out.later hW).sl g.le g.max (tree_ok (tree_trN _)) g.sl
        rw [hp1] at h
        exact h
      have HR2 := Lib.hid hp2
      clear hp1 hp2 hdr hjl hcs hx
      generalize r.testBit (ss.length - (i + 1)) = B at HB HPT HR2
      generalize r / 2 ^ (ss.length - (i + 1)) = bt at HB HH ⊢
      obtain ⟨bt', hbt⟩ : ∃ q, r / 2 ^ (ss.length - i) = q := ⟨_, rfl⟩
      rw [hbt] at HH
      have HBT := Lib.hid hbt
      clear hbt
      generalize putL L (bsL x) [trN B] = L2 at HPT HR2
      generalize bsL x = s at c0 HPT
      have i1 : (0 : Int) ≤ (i : Int) := by omega
      have i2 : (i : Int) < (ss.length : Int) := by omega
      clear hq h0
      have HS0 : Hid (RdS b (o + i) (.string s) wr wr.drew) := Lib.hid ⟨c0, (RowKit.Below.refl _ _).drew⟩
      go_wp2_with fail
      go_region_held3 (fun W => W.cell? ⟨b, o + i, none⟩ = some (.string s) ∧ RowKit.Below wr.heap.size wr W) (first | exact HS0.out | exact RdS.keep (by assumption) hb hbw)
        (first
          | (go_at_call 18; ((with_reducible refine (HU.out B _).mono ?_)); rintro r W ⟨A3, c3, rfl, g3, hb⟩; have q3 : RowKit.Below wr.heap.size wr W := ((RowKit.Below.refl _ _).drew.trans hb))
          | (go_at_call 17; ((with_reducible refine (HPT.out _ q3 A3 c3 g3).mono ?_)); rintro r W ⟨A4, c4, rfl, h41, h42, h43, hb⟩; have q4 : RowKit.Below wr.heap.size wr W := q3.trans (hb.mono q3.size)))
      have HG4 := Lib.hid (NsGood.mk (w := W) (B := W.heap.size) (x := ⟨A4, c4, L2⟩) h43 h41 h42)
      have hq4 := q4
      clear g3 q3 h41 h42 h43 HS0 c0 q4
      go_wp2_with fail
      exact ⟨⟨i, (i : Int) - 1, L2, A4, c4, by omega, by omega, by go_num, rfl, by rw [HH, HBT.out], HR2, HG4, hbr.trans (hq4.mono hzr)⟩, by simp only [intOf]; omega⟩
end Go.Proofs.YtpheiojmcafolaaGreatDoor
namespace Go.Proofs.YtpheiojmcafolaaGreatDoor
set_option maxRecDepth 100000
open Go.ChangeShapes Go.WideShapes Go.RowKit
def laidE : List (String × DataW Unit) := [("errors.errorType", Rows.laid_errors_errorType)]
theorem Tryz.et : Tryz.prog.globalNamed "errors.errorType" = some 0 := by kernel_rfl
theorem Tryz.rt : (Tryz.prog.cutTypes.find? (·.1 == "internal/reflectlite.rtype")).map (·.2) = some 285 := by kernel_rfl
theorem Tryz.oneRow : ((List.range 413).filter fun t => Tryz.prog.rowNamed t [101, 114, 114, 111, 114]) = [27] := by kernel_rfl
theorem Tryz.size : Tryz.prog.types.size = 413 := by kernel_rfl
theorem handle_of_laid {W : World} (h : laidMetH Tryz.prog laidE W) : ErrCell W := by
  have h' : laidMet Tryz.prog [] W ∧ handlesMet Tryz.prog laidE W := h
  obtain ⟨name, u, ty, e1, e2, e3, e4, e5⟩ := h'.2 _ (List.mem_singleton.2 rfl)
  have en : name = [101, 114, 114, 111, 114] := (Option.some.inj e1).symm
  subst en
  obtain rfl := Option.some.inj (Tryz.rt.symm.trans e2)
  have hm : ty ∈ (List.range 413).filter fun t => Tryz.prog.rowNamed t [101, 114, 114, 111, 114] := List.mem_filter.2 ⟨List.mem_range.2 (by rw [← Tryz.size]; exact e3), e4⟩
  rw [Tryz.oneRow] at hm
  obtain rfl := List.mem_singleton.1 hm
  have hh : typeHandle Tryz.prog 27 = .pointer (some ⟨2, 27, none⟩) := by kernel_rfl
  rw [hh] at e5
  unfold ErrCell
  simpa using World.var?_cell Tryz.et e5 0

noncomputable def laidWorld (os : Os) : World :=
  let w0 := World.holding Tryz.prog os ⟨#[], #[], []⟩
  { w0 with heap := w0.heap.modify 0 fun
      | .cells _ t frozen => .cells #[.iface 285 (.agg #[.pointer (some ⟨2, 27, none⟩)])] t frozen
      | o => o }
theorem laidWorld_met (os : Os) (args : Array Value) : laidMetH Tryz.prog laidE ((laidWorld os).forCall (fun _ _ => 0) ⟨#[], args, []⟩).memory :=
  laidMetH_of_parts (laidMet_nil _ _) (by kernel_rfl)
end Go.Proofs.YtpheiojmcafolaaGreatDoor
