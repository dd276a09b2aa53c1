/-
 THE WALKS: eval.Value.
 THE WALKS: eval.Value where nothing is bad.
 PLAIN LAWS: what is wrong has a number that is not 0.
 THE WALKS: eval.Value, whole.
-/
import Derived.Test.YtpheiojmcafolaaGreatDoorSy21
namespace Go.Proofs.YtpheiojmcafolaaGreatDoor
set_option maxRecDepth 100000
open Go.RowKit Go.Sort
structure VaIn (x : Evl) (w : World) : Prop where
 ents : EntsIn w x.Ea x.hs x.es
 ai : ∀ e ∈ x.es, NdI e.at_
 ec : x.hs.length ≤ x.ec
 ctx : NdSl w w.heap.size x.qa x.q.ctx
 qc : x.q.ctx.length ≤ x.qc ∧ x.qc ≤ 9223372036854775807
 qk : NdOk x.q.ctx
 qi : NdI x.q.ctx
 qz : UdOk x.q.who ∧ UdOk x.q.act ∧ UdOk x.q.what
 ex : NdSl w w.heap.size x.ea x.e
 eca : x.e.length ≤ x.eca ∧ x.eca ≤ 9223372036854775807
 ek : NdOk x.e
 ei : NdI x.e
 err : ErrCell w
theorem VaIn.later {x : Evl} {w w' : World} (h : VaIn x w) (hb : RowKit.Below w.heap.size w w') : VaIn x w' :=
 ⟨h.ents.later hb, h.ai, h.ec, (h.ctx.below hb).more hb.size, h.qc, h.qk, h.qi, h.qz, (h.ex.below hb).more hb.size, h.eca, h.ek, h.ei, h.err.below hb h.err.lt⟩
theorem store_err (w : World) (b : Nat) (k : Int) (u : Value) (hc : w.cell? ⟨b, 0, none⟩ = some u) (hf : w.frozen? ⟨b, 0, none⟩ = false) : Sem.run Tryz.prog (storeCells ⟨b, 0, none⟩ [errV k]) w = .ok () (w.setCell ⟨b, 0, none⟩ (errV k)) := by
 unfold errV;split <;> simp [storeCells, hc, hf, go_sem]
set_option maxHeartbeats 6400000 in
theorem value_1 (x : Evl) (w : World) (h : VaIn x w) (h1 : entErr x.es ≠ 0) :
 Calls Tryz.prog 19 #[.slice x.Ea x.hs.length x.ec, .agg #[.string x.q.who.ty, .string x.q.who.id, .string x.q.act.ty, .string x.q.act.id, .string x.q.what.ty, .string x.q.what.id, .slice x.qa x.q.ctx.length x.qc], .slice x.ea x.e.length x.eca] w fun r w' => r = .returned (.tuple #[.slice none 0 0, errV (entErr x.es)]) ∧ RowKit.Below w.heap.size w w' := by
 have hmf : ∀ (fn : Fn) (first cap : Array Value) (w : World), (Instr.makeFunc fn first cap).run Tryz.prog w = .ok (.func fn first cap) w := fun _ _ _ _ => rfl;have HE := Lib.hid (fun W (hb : RowKit.Below w.heap.size w W) => ent_Check x.hs x.es x.Ea x.ec W (h.later hb).ents h.ec);have HA := Lib.hid (fun W (hb : RowKit.Below w.heap.size w W) => eval_Ask x.q x.qa x.qc W h.qz.1 h.qz.2.1 h.qz.2.2 h.qc.1 h.qc.2 h.qk (h.later hb).ctx);have HT := Lib.hid (fun W (hb : RowKit.Below w.heap.size w W) => tree_Check x.e x.ea x.eca W h.eca.1 h.eca.2 h.ek (h.later hb).ex);have HH := Lib.hid h;have b0 : Blk (((w.alloc (.cells #[.string x.q.who.ty, .string x.q.who.id, .string x.q.act.ty, .string x.q.act.id, .string x.q.what.ty, .string x.q.what.id, .slice x.qa x.q.ctx.length x.qc] 39)).alloc (.cells #[.slice none 0 0] 22)).alloc (.cells #[.nilIface] 27)) w.heap.size 39 #[.string x.q.who.ty, .string x.q.who.id, .string x.q.act.ty, .string x.q.act.id, .string x.q.what.ty, .string x.q.what.id, .slice x.qa x.q.ctx.length x.qc] := ((Blk.new w _ _).alloc _).alloc _;have b1 : Blk (((w.alloc (.cells #[.string x.q.who.ty, .string x.q.who.id, .string x.q.act.ty, .string x.q.act.id, .string x.q.what.ty, .string x.q.what.id, .slice x.qa x.q.ctx.length x.qc] 39)).alloc (.cells #[.slice none 0 0] 22)).alloc (.cells #[.nilIface] 27)) (w.heap.size + 1) 22 #[.slice none 0 0] := by
  have := (Blk.new (w.alloc (.cells #[.string x.q.who.ty, .string x.q.who.id, .string x.q.act.ty, .string x.q.act.id, .string x.q.what.ty, .string x.q.what.id, .slice x.qa x.q.ctx.length x.qc] 39)) 22 #[.slice none 0 0]).alloc (.cells #[.nilIface] 27);rwa [World.size_alloc] at this
 have b2 : Blk (((w.alloc (.cells #[.string x.q.who.ty, .string x.q.who.id, .string x.q.act.ty, .string x.q.act.id, .string x.q.what.ty, .string x.q.what.id, .slice x.qa x.q.ctx.length x.qc] 39)).alloc (.cells #[.slice none 0 0] 22)).alloc (.cells #[.nilIface] 27)) (w.heap.size + 1 + 1) 27 #[.nilIface] := by
  have := Blk.new ((w.alloc (.cells #[.string x.q.who.ty, .string x.q.who.id, .string x.q.act.ty, .string x.q.act.id, .string x.q.what.ty, .string x.q.what.id, .slice x.qa x.q.ctx.length x.qc] 39)).alloc (.cells #[.slice none 0 0] 22)) 27 #[.nilIface];rwa [World.size_alloc, World.size_alloc] at this
 have hb0 : RowKit.Below w.heap.size w (((w.alloc (.cells #[.string x.q.who.ty, .string x.q.who.id, .string x.q.act.ty, .string x.q.act.id, .string x.q.what.ty, .string x.q.what.id, .slice x.qa x.q.ctx.length x.qc] 39)).alloc (.cells #[.slice none 0 0] 22)).alloc (.cells #[.nilIface] 27)) := by (repeat (first | assumption | exact Below.refl _ _ | apply Below.drew | apply below_drewN | (refine Below.alloc ?_ (by first | exact Nat.le_refl _ | omega | (simp; done) | (simp; omega)) _)))
 have t1 : (entErr x.es != 0) = true := by simpa using h1
 generalize entErr x.es = k at t1 h1 HE ⊢;have he1 : errV k = .iface 96 (.int .i64 k) := by unfold errV; rw [if_neg h1]
 rw [he1];have HE1 := Lib.hid he1;clear h1;clear h;go_enter_defers Tryz.func19, Tryz.ntmps19
 go_wp2_with fail
 generalize (((w.alloc (.cells #[.string x.q.who.ty, .string x.q.who.id, .string x.q.act.ty, .string x.q.act.id, .string x.q.what.ty, .string x.q.what.id, .slice x.qa x.q.ctx.length x.qc] 39)).alloc (.cells #[.slice none 0 0] 22)).alloc (.cells #[.nilIface] 27)) = w1 at b0 b1 b2 hb0 ⊢;have B0 := Lib.hid b0;have B1 := Lib.hid b1;have B2 := Lib.hid b2;have HB0 := Lib.hid hb0;clear b0 b1 b2;refine (HE.out w1 HB0.out).mono ?_;rintro r w2 ⟨hr, hb2⟩;rw [he1] at hr;subst hr;have hbw2 := hb0.trans (hb2.mono hb0.size);have c1 : w2.cell? ⟨w.heap.size + 1, 0, none⟩ = some (.slice none 0 0) := (B1.out.below hb2 B1.out.lt).cell 0;have f1 : w2.frozen? ⟨w.heap.size + 1, 0, none⟩ = false := (B1.out.below hb2 B1.out.lt).frozen 0;have c2 : w2.cell? ⟨w.heap.size + 1 + 1, 0, none⟩ = some .nilIface := (B2.out.below hb2 B2.out.lt).cell 0;have f2 : w2.frozen? ⟨w.heap.size + 1 + 1, 0, none⟩ = false := (B2.out.below hb2 B2.out.lt).frozen 0;have HBW2 := Lib.hid hbw2;have hse : ∀ k, Sem.run Tryz.prog (storeCells ⟨w.heap.size + 1 + 1, 0, none⟩ [errV k]) (w2.setCell ⟨w.heap.size + 1, 0, none⟩ (.slice none 0 0)) = .ok () ((w2.setCell ⟨w.heap.size + 1, 0, none⟩ (.slice none 0 0)).setCell ⟨w.heap.size + 1 + 1, 0, none⟩ (errV k)) := fun k =>
  store_err _ _ k .nilIface ((World.cell?_of_block (w := w2) (a := ⟨w.heap.size + 1 + 1, 0, none⟩) (RowKit.Below.heap_setCell _ _ _ _ (by simp))).trans c2) ((World.frozen?_of_block (w := w2) (a := ⟨w.heap.size + 1 + 1, 0, none⟩) (RowKit.Below.heap_setCell _ _ _ _ (by simp))).trans f2)
 clear hb2 hbw2 hse he1;go_wp2_with fail
 have hcA : (w2.setCell ⟨w.heap.size + 1, 0, none⟩ (.slice none 0 0)).cell? ⟨w.heap.size + 1, 0, none⟩ = some (.slice none 0 0) := World.cell?_setCell_same _ _ _ c1;have hcB : ((w2.setCell ⟨w.heap.size + 1, 0, none⟩ (.slice none 0 0)).setCell ⟨w.heap.size + 1 + 1, 0, none⟩ (.iface 96 (.int .i64 k))).cell? ⟨w.heap.size + 1 + 1, 0, none⟩ = some (.iface 96 (.int .i64 k)) :=
  World.cell?_setCell_same _ _ _ ((World.cell?_of_block (w := w2) (a := ⟨w.heap.size + 1 + 1, 0, none⟩) (RowKit.Below.heap_setCell _ _ _ _ (by simp))).trans c2)
 have hbF : RowKit.Below w.heap.size w ((w2.setCell ⟨w.heap.size + 1, 0, none⟩ (.slice none 0 0)).setCell ⟨w.heap.size + 1 + 1, 0, none⟩ (.iface 96 (.int .i64 k))) := (HBW2.out.setCell (by simp) _).setCell (by show _ ≤ w.heap.size + 1 + 1; omega) _;simp [bodyPostD, Leaves, results, Tryz.results19, go_sem, hcA, hcB, hbF]
set_option maxHeartbeats 6400000 in
theorem value_2 (x : Evl) (w : World) (h : VaIn x w) (h0 : entErr x.es = 0) (h1 : rqErr x.q ≠ 0) :
 Calls Tryz.prog 19 #[.slice x.Ea x.hs.length x.ec, .agg #[.string x.q.who.ty, .string x.q.who.id, .string x.q.act.ty, .string x.q.act.id, .string x.q.what.ty, .string x.q.what.id, .slice x.qa x.q.ctx.length x.qc], .slice x.ea x.e.length x.eca] w fun r w' => r = .returned (.tuple #[.slice none 0 0, errV (rqErr x.q)]) ∧ RowKit.Below w.heap.size w w' := by
 have hmf : ∀ (fn : Fn) (first cap : Array Value) (w : World), (Instr.makeFunc fn first cap).run Tryz.prog w = .ok (.func fn first cap) w := fun _ _ _ _ => rfl;have HE := Lib.hid (fun W (hb : RowKit.Below w.heap.size w W) => ent_Check x.hs x.es x.Ea x.ec W (h.later hb).ents h.ec);have HA := Lib.hid (fun W (hb : RowKit.Below w.heap.size w W) => eval_Ask x.q x.qa x.qc W h.qz.1 h.qz.2.1 h.qz.2.2 h.qc.1 h.qc.2 h.qk (h.later hb).ctx);have HT := Lib.hid (fun W (hb : RowKit.Below w.heap.size w W) => tree_Check x.e x.ea x.eca W h.eca.1 h.eca.2 h.ek (h.later hb).ex);have HH := Lib.hid h;have b0 : Blk (((w.alloc (.cells #[.string x.q.who.ty, .string x.q.who.id, .string x.q.act.ty, .string x.q.act.id, .string x.q.what.ty, .string x.q.what.id, .slice x.qa x.q.ctx.length x.qc] 39)).alloc (.cells #[.slice none 0 0] 22)).alloc (.cells #[.nilIface] 27)) w.heap.size 39 #[.string x.q.who.ty, .string x.q.who.id, .string x.q.act.ty, .string x.q.act.id, .string x.q.what.ty, .string x.q.what.id, .slice x.qa x.q.ctx.length x.qc] := ((Blk.new w _ _).alloc _).alloc _;have b1 : Blk (((w.alloc (.cells #[.string x.q.who.ty, .string x.q.who.id, .string x.q.act.ty, .string x.q.act.id, .string x.q.what.ty, .string x.q.what.id, .slice x.qa x.q.ctx.length x.qc] 39)).alloc (.cells #[.slice none 0 0] 22)).alloc (.cells #[.nilIface] 27)) (w.heap.size + 1) 22 #[.slice none 0 0] := by
  have := (Blk.new (w.alloc (.cells #[.string x.q.who.ty, .string x.q.who.id, .string x.q.act.ty, .string x.q.act.id, .string x.q.what.ty, .string x.q.what.id, .slice x.qa x.q.ctx.length x.qc] 39)) 22 #[.slice none 0 0]).alloc (.cells #[.nilIface] 27);rwa [World.size_alloc] at this
 have b2 : Blk (((w.alloc (.cells #[.string x.q.who.ty, .string x.q.who.id, .string x.q.act.ty, .string x.q.act.id, .string x.q.what.ty, .string x.q.what.id, .slice x.qa x.q.ctx.length x.qc] 39)).alloc (.cells #[.slice none 0 0] 22)).alloc (.cells #[.nilIface] 27)) (w.heap.size + 1 + 1) 27 #[.nilIface] := by
  have := Blk.new ((w.alloc (.cells #[.string x.q.who.ty, .string x.q.who.id, .string x.q.act.ty, .string x.q.act.id, .string x.q.what.ty, .string x.q.what.id, .slice x.qa x.q.ctx.length x.qc] 39)).alloc (.cells #[.slice none 0 0] 22)) 27 #[.nilIface];rwa [World.size_alloc, World.size_alloc] at this
 have hb0 : RowKit.Below w.heap.size w (((w.alloc (.cells #[.string x.q.who.ty, .string x.q.who.id, .string x.q.act.ty, .string x.q.act.id, .string x.q.what.ty, .string x.q.what.id, .slice x.qa x.q.ctx.length x.qc] 39)).alloc (.cells #[.slice none 0 0] 22)).alloc (.cells #[.nilIface] 27)) := by (repeat (first | assumption | exact Below.refl _ _ | apply Below.drew | apply below_drewN | (refine Below.alloc ?_ (by first | exact Nat.le_refl _ | omega | (simp; done) | (simp; omega)) _)))
 have he0 : errV (entErr x.es) = .nilIface := by rw [h0]; rfl
 generalize rqErr x.q = k at h1 HA ⊢;have he1 : errV k = .iface 96 (.int .i64 k) := by unfold errV; rw [if_neg h1]
 rw [he1];clear h1;clear h;go_enter_defers Tryz.func19, Tryz.ntmps19
 go_wp2_with fail
 generalize (((w.alloc (.cells #[.string x.q.who.ty, .string x.q.who.id, .string x.q.act.ty, .string x.q.act.id, .string x.q.what.ty, .string x.q.what.id, .slice x.qa x.q.ctx.length x.qc] 39)).alloc (.cells #[.slice none 0 0] 22)).alloc (.cells #[.nilIface] 27)) = w1 at b0 b1 b2 hb0 ⊢;have B01 := Lib.hid b0;have B11 := Lib.hid b1;have B21 := Lib.hid b2;have BW1 := Lib.hid hb0;clear b0 b1 b2 hb0;refine (HE.out w1 BW1.out).mono ?_;rintro r w2 ⟨hr, hb2⟩;rw [he0] at hr;subst hr;have B02 := Lib.hid (B01.out.below hb2 B01.out.lt);have B12 := Lib.hid (B11.out.below hb2 B11.out.lt);have B22 := Lib.hid (B21.out.below hb2 B21.out.lt);have BW2 := Lib.hid (BW1.out.trans (hb2.mono BW1.out.size));clear hb2;have q20 : w2.cell? ⟨w.heap.size, 0, none⟩ = some (.string x.q.who.ty) := B02.out.cell 0;have q21 : w2.cell? ⟨w.heap.size, 1, none⟩ = some (.string x.q.who.id) := B02.out.cell 1;have q22 : w2.cell? ⟨w.heap.size, 2, none⟩ = some (.string x.q.act.ty) := B02.out.cell 2;have q23 : w2.cell? ⟨w.heap.size, 3, none⟩ = some (.string x.q.act.id) := B02.out.cell 3;have q24 : w2.cell? ⟨w.heap.size, 4, none⟩ = some (.string x.q.what.ty) := B02.out.cell 4;have q25 : w2.cell? ⟨w.heap.size, 5, none⟩ = some (.string x.q.what.id) := B02.out.cell 5;have q26 : w2.cell? ⟨w.heap.size, 6, none⟩ = some (.slice x.qa x.q.ctx.length x.qc) := B02.out.cell 6;go_wp2_with fail
 refine (HA.out w2 BW2.out).mono ?_;rintro r w3 ⟨hr, hb3⟩;rw [he1] at hr;subst hr;have B03 := Lib.hid (B02.out.below hb3 B02.out.lt);have B13 := Lib.hid (B12.out.below hb3 B12.out.lt);have B23 := Lib.hid (B22.out.below hb3 B22.out.lt);have BW3 := Lib.hid (BW2.out.trans (hb3.mono BW2.out.size));clear hb3;have c1 : w3.cell? ⟨w.heap.size + 1, 0, none⟩ = some (.slice none 0 0) := B13.out.cell 0;have f1 : w3.frozen? ⟨w.heap.size + 1, 0, none⟩ = false := B13.out.frozen 0;have c2 : w3.cell? ⟨w.heap.size + 1 + 1, 0, none⟩ = some .nilIface := B23.out.cell 0;have f2 : w3.frozen? ⟨w.heap.size + 1 + 1, 0, none⟩ = false := B23.out.frozen 0;clear he1 he0;go_wp2_with fail
 have hcA : (w3.setCell ⟨w.heap.size + 1, 0, none⟩ (.slice none 0 0)).cell? ⟨w.heap.size + 1, 0, none⟩ = some (.slice none 0 0) := World.cell?_setCell_same _ _ _ c1;have hcB : ((w3.setCell ⟨w.heap.size + 1, 0, none⟩ (.slice none 0 0)).setCell ⟨w.heap.size + 1 + 1, 0, none⟩ (.iface 96 (.int .i64 k))).cell? ⟨w.heap.size + 1 + 1, 0, none⟩ = some (.iface 96 (.int .i64 k)) :=
  World.cell?_setCell_same _ _ _ ((World.cell?_of_block (w := w3) (a := ⟨w.heap.size + 1 + 1, 0, none⟩) (RowKit.Below.heap_setCell _ _ _ _ (by simp))).trans c2)
 have hbF : RowKit.Below w.heap.size w ((w3.setCell ⟨w.heap.size + 1, 0, none⟩ (.slice none 0 0)).setCell ⟨w.heap.size + 1 + 1, 0, none⟩ (.iface 96 (.int .i64 k))) := (BW3.out.setCell (by simp) _).setCell (by show _ ≤ w.heap.size + 1 + 1; omega) _;simp [bodyPostD, Leaves, results, Tryz.results19, go_sem, hcA, hcB, hbF]
set_option maxHeartbeats 6400000 in
theorem value_3 (x : Evl) (w : World) (h : VaIn x w) (h0 : entErr x.es = 0) (h00 : rqErr x.q = 0) (h1 : treeErr x.e ≠ 0) :
 Calls Tryz.prog 19 #[.slice x.Ea x.hs.length x.ec, .agg #[.string x.q.who.ty, .string x.q.who.id, .string x.q.act.ty, .string x.q.act.id, .string x.q.what.ty, .string x.q.what.id, .slice x.qa x.q.ctx.length x.qc], .slice x.ea x.e.length x.eca] w fun r w' => r = .returned (.tuple #[.slice none 0 0, errV (treeErr x.e)]) ∧ RowKit.Below w.heap.size w w' := by
 have hmf : ∀ (fn : Fn) (first cap : Array Value) (w : World), (Instr.makeFunc fn first cap).run Tryz.prog w = .ok (.func fn first cap) w := fun _ _ _ _ => rfl;have HE := Lib.hid (fun W (hb : RowKit.Below w.heap.size w W) => ent_Check x.hs x.es x.Ea x.ec W (h.later hb).ents h.ec);have HA := Lib.hid (fun W (hb : RowKit.Below w.heap.size w W) => eval_Ask x.q x.qa x.qc W h.qz.1 h.qz.2.1 h.qz.2.2 h.qc.1 h.qc.2 h.qk (h.later hb).ctx);have HT := Lib.hid (fun W (hb : RowKit.Below w.heap.size w W) => tree_Check x.e x.ea x.eca W h.eca.1 h.eca.2 h.ek (h.later hb).ex);have HH := Lib.hid h;have b0 : Blk (((w.alloc (.cells #[.string x.q.who.ty, .string x.q.who.id, .string x.q.act.ty, .string x.q.act.id, .string x.q.what.ty, .string x.q.what.id, .slice x.qa x.q.ctx.length x.qc] 39)).alloc (.cells #[.slice none 0 0] 22)).alloc (.cells #[.nilIface] 27)) w.heap.size 39 #[.string x.q.who.ty, .string x.q.who.id, .string x.q.act.ty, .string x.q.act.id, .string x.q.what.ty, .string x.q.what.id, .slice x.qa x.q.ctx.length x.qc] := ((Blk.new w _ _).alloc _).alloc _;have b1 : Blk (((w.alloc (.cells #[.string x.q.who.ty, .string x.q.who.id, .string x.q.act.ty, .string x.q.act.id, .string x.q.what.ty, .string x.q.what.id, .slice x.qa x.q.ctx.length x.qc] 39)).alloc (.cells #[.slice none 0 0] 22)).alloc (.cells #[.nilIface] 27)) (w.heap.size + 1) 22 #[.slice none 0 0] := by
  have := (Blk.new (w.alloc (.cells #[.string x.q.who.ty, .string x.q.who.id, .string x.q.act.ty, .string x.q.act.id, .string x.q.what.ty, .string x.q.what.id, .slice x.qa x.q.ctx.length x.qc] 39)) 22 #[.slice none 0 0]).alloc (.cells #[.nilIface] 27);rwa [World.size_alloc] at this
 have b2 : Blk (((w.alloc (.cells #[.string x.q.who.ty, .string x.q.who.id, .string x.q.act.ty, .string x.q.act.id, .string x.q.what.ty, .string x.q.what.id, .slice x.qa x.q.ctx.length x.qc] 39)).alloc (.cells #[.slice none 0 0] 22)).alloc (.cells #[.nilIface] 27)) (w.heap.size + 1 + 1) 27 #[.nilIface] := by
  have := Blk.new ((w.alloc (.cells #[.string x.q.who.ty, .string x.q.who.id, .string x.q.act.ty, .string x.q.act.id, .string x.q.what.ty, .string x.q.what.id, .slice x.qa x.q.ctx.length x.qc] 39)).alloc (.cells #[.slice none 0 0] 22)) 27 #[.nilIface];rwa [World.size_alloc, World.size_alloc] at this
 have hb0 : RowKit.Below w.heap.size w (((w.alloc (.cells #[.string x.q.who.ty, .string x.q.who.id, .string x.q.act.ty, .string x.q.act.id, .string x.q.what.ty, .string x.q.what.id, .slice x.qa x.q.ctx.length x.qc] 39)).alloc (.cells #[.slice none 0 0] 22)).alloc (.cells #[.nilIface] 27)) := by (repeat (first | assumption | exact Below.refl _ _ | apply Below.drew | apply below_drewN | (refine Below.alloc ?_ (by first | exact Nat.le_refl _ | omega | (simp; done) | (simp; omega)) _)))
 have he0 : errV (entErr x.es) = .nilIface := by rw [h0]; rfl
 have he00 : errV (rqErr x.q) = .nilIface := by rw [h00]; rfl
 generalize treeErr x.e = k at h1 HT ⊢;have he1 : errV k = .iface 96 (.int .i64 k) := by unfold errV; rw [if_neg h1]
 rw [he1];clear h1;clear h;go_enter_defers Tryz.func19, Tryz.ntmps19
 go_wp2_with fail
 generalize (((w.alloc (.cells #[.string x.q.who.ty, .string x.q.who.id, .string x.q.act.ty, .string x.q.act.id, .string x.q.what.ty, .string x.q.what.id, .slice x.qa x.q.ctx.length x.qc] 39)).alloc (.cells #[.slice none 0 0] 22)).alloc (.cells #[.nilIface] 27)) = w1 at b0 b1 b2 hb0 ⊢;have B01 := Lib.hid b0;have B11 := Lib.hid b1;have B21 := Lib.hid b2;have BW1 := Lib.hid hb0;clear b0 b1 b2 hb0;refine (HE.out w1 BW1.out).mono ?_;rintro r w2 ⟨hr, hb2⟩;rw [he0] at hr;subst hr;have B02 := Lib.hid (B01.out.below hb2 B01.out.lt);have B12 := Lib.hid (B11.out.below hb2 B11.out.lt);have B22 := Lib.hid (B21.out.below hb2 B21.out.lt);have BW2 := Lib.hid (BW1.out.trans (hb2.mono BW1.out.size));clear hb2;have q20 : w2.cell? ⟨w.heap.size, 0, none⟩ = some (.string x.q.who.ty) := B02.out.cell 0;have q21 : w2.cell? ⟨w.heap.size, 1, none⟩ = some (.string x.q.who.id) := B02.out.cell 1;have q22 : w2.cell? ⟨w.heap.size, 2, none⟩ = some (.string x.q.act.ty) := B02.out.cell 2;have q23 : w2.cell? ⟨w.heap.size, 3, none⟩ = some (.string x.q.act.id) := B02.out.cell 3;have q24 : w2.cell? ⟨w.heap.size, 4, none⟩ = some (.string x.q.what.ty) := B02.out.cell 4;have q25 : w2.cell? ⟨w.heap.size, 5, none⟩ = some (.string x.q.what.id) := B02.out.cell 5;have q26 : w2.cell? ⟨w.heap.size, 6, none⟩ = some (.slice x.qa x.q.ctx.length x.qc) := B02.out.cell 6;go_wp2_with fail
 refine (HA.out w2 BW2.out).mono ?_;rintro r w3 ⟨hr, hb3⟩;rw [he00] at hr;subst hr;have B03 := Lib.hid (B02.out.below hb3 B02.out.lt);have B13 := Lib.hid (B12.out.below hb3 B12.out.lt);have B23 := Lib.hid (B22.out.below hb3 B22.out.lt);have BW3 := Lib.hid (BW2.out.trans (hb3.mono BW2.out.size));clear hb3;go_wp2_with fail
 refine (HT.out w3 BW3.out).mono ?_;rintro r w4 ⟨hr, hb4⟩;rw [he1] at hr;subst hr;have B04 := Lib.hid (B03.out.below hb4 B03.out.lt);have B14 := Lib.hid (B13.out.below hb4 B13.out.lt);have B24 := Lib.hid (B23.out.below hb4 B23.out.lt);have BW4 := Lib.hid (BW3.out.trans (hb4.mono BW3.out.size));clear hb4;have c1 : w4.cell? ⟨w.heap.size + 1, 0, none⟩ = some (.slice none 0 0) := B14.out.cell 0;have f1 : w4.frozen? ⟨w.heap.size + 1, 0, none⟩ = false := B14.out.frozen 0;have c2 : w4.cell? ⟨w.heap.size + 1 + 1, 0, none⟩ = some .nilIface := B24.out.cell 0;have f2 : w4.frozen? ⟨w.heap.size + 1 + 1, 0, none⟩ = false := B24.out.frozen 0;clear he1 he0 he00;go_wp2_with fail
 have hcA : (w4.setCell ⟨w.heap.size + 1, 0, none⟩ (.slice none 0 0)).cell? ⟨w.heap.size + 1, 0, none⟩ = some (.slice none 0 0) := World.cell?_setCell_same _ _ _ c1;have hcB : ((w4.setCell ⟨w.heap.size + 1, 0, none⟩ (.slice none 0 0)).setCell ⟨w.heap.size + 1 + 1, 0, none⟩ (.iface 96 (.int .i64 k))).cell? ⟨w.heap.size + 1 + 1, 0, none⟩ = some (.iface 96 (.int .i64 k)) :=
  World.cell?_setCell_same _ _ _ ((World.cell?_of_block (w := w4) (a := ⟨w.heap.size + 1 + 1, 0, none⟩) (RowKit.Below.heap_setCell _ _ _ _ (by simp))).trans c2)
 have hbF : RowKit.Below w.heap.size w ((w4.setCell ⟨w.heap.size + 1, 0, none⟩ (.slice none 0 0)).setCell ⟨w.heap.size + 1 + 1, 0, none⟩ (.iface 96 (.int .i64 k))) := (BW4.out.setCell (by simp) _).setCell (by show _ ≤ w.heap.size + 1 + 1; omega) _;simp [bodyPostD, Leaves, results, Tryz.results19, go_sem, hcA, hcB, hbF]
theorem VaIn.evin {x : Evl} {w w' : World} (h : VaIn x w) (h1 : entErr x.es = 0) (h2 : rqErr x.q = 0) (h3 : x.e.length ≤ 200) (hb : RowKit.Below w.heap.size w w') : EvIn x w.heap.size w' :=
 ⟨h.ents.sl.below hb, h.ents.ens.below hb, h.ents.uz, h.ents.pz, h.ents.az, h.ai, h.ec, h1, h.ctx.below hb, h.qc, h.qk, h.qi, h2, h.qz, h.ex.below hb, h.eca, h.ek, h.ei, h3, h.err.below hb h.err.lt, h.err.lt⟩
end Go.Proofs.YtpheiojmcafolaaGreatDoor
namespace Go.Proofs.YtpheiojmcafolaaGreatDoor
set_option maxRecDepth 100000
open Go.RowKit Go.Sort
set_option maxHeartbeats 6400000 in
theorem value_4 (x : Evl) (w : World) (h : VaIn x w) (h0 : entErr x.es = 0) (h00 : rqErr x.q = 0) (h1 : treeErr x.e = 0) (hf : FewIn x) :
 Calls Tryz.prog 19 #[.slice x.Ea x.hs.length x.ec, .agg #[.string x.q.who.ty, .string x.q.who.id, .string x.q.act.ty, .string x.q.act.id, .string x.q.what.ty, .string x.q.what.id, .slice x.qa x.q.ctx.length x.qc], .slice x.ea x.e.length x.eca] w fun r w' => (∀ v, evX x.es x.q x.e = .ok v → NdsNewE w r w' v 0) ∧ (∀ k, evX x.es x.q x.e = .bad k → r = .returned (.tuple #[.slice none 0 0, .iface 96 (.int .i64 k)]) ∧ RowKit.Below w.heap.size w w') := by
 have hmf : ∀ (fn : Fn) (first cap : Array Value) (w : World), (Instr.makeFunc fn first cap).run Tryz.prog w = .ok (.func fn first cap) w := fun _ _ _ _ => rfl;have HE := Lib.hid (fun W (hb : RowKit.Below w.heap.size w W) => ent_Check x.hs x.es x.Ea x.ec W (h.later hb).ents h.ec);have HA := Lib.hid (fun W (hb : RowKit.Below w.heap.size w W) => eval_Ask x.q x.qa x.qc W h.qz.1 h.qz.2.1 h.qz.2.2 h.qc.1 h.qc.2 h.qk (h.later hb).ctx);have HT := Lib.hid (fun W (hb : RowKit.Below w.heap.size w W) => tree_Check x.e x.ea x.eca W h.eca.1 h.eca.2 h.ek (h.later hb).ex);have HH := Lib.hid h;have b0 : Blk (((w.alloc (.cells #[.string x.q.who.ty, .string x.q.who.id, .string x.q.act.ty, .string x.q.act.id, .string x.q.what.ty, .string x.q.what.id, .slice x.qa x.q.ctx.length x.qc] 39)).alloc (.cells #[.slice none 0 0] 22)).alloc (.cells #[.nilIface] 27)) w.heap.size 39 #[.string x.q.who.ty, .string x.q.who.id, .string x.q.act.ty, .string x.q.act.id, .string x.q.what.ty, .string x.q.what.id, .slice x.qa x.q.ctx.length x.qc] := ((Blk.new w _ _).alloc _).alloc _;have b1 : Blk (((w.alloc (.cells #[.string x.q.who.ty, .string x.q.who.id, .string x.q.act.ty, .string x.q.act.id, .string x.q.what.ty, .string x.q.what.id, .slice x.qa x.q.ctx.length x.qc] 39)).alloc (.cells #[.slice none 0 0] 22)).alloc (.cells #[.nilIface] 27)) (w.heap.size + 1) 22 #[.slice none 0 0] := by
  have := (Blk.new (w.alloc (.cells #[.string x.q.who.ty, .string x.q.who.id, .string x.q.act.ty, .string x.q.act.id, .string x.q.what.ty, .string x.q.what.id, .slice x.qa x.q.ctx.length x.qc] 39)) 22 #[.slice none 0 0]).alloc (.cells #[.nilIface] 27);rwa [World.size_alloc] at this
 have b2 : Blk (((w.alloc (.cells #[.string x.q.who.ty, .string x.q.who.id, .string x.q.act.ty, .string x.q.act.id, .string x.q.what.ty, .string x.q.what.id, .slice x.qa x.q.ctx.length x.qc] 39)).alloc (.cells #[.slice none 0 0] 22)).alloc (.cells #[.nilIface] 27)) (w.heap.size + 1 + 1) 27 #[.nilIface] := by
  have := Blk.new ((w.alloc (.cells #[.string x.q.who.ty, .string x.q.who.id, .string x.q.act.ty, .string x.q.act.id, .string x.q.what.ty, .string x.q.what.id, .slice x.qa x.q.ctx.length x.qc] 39)).alloc (.cells #[.slice none 0 0] 22)) 27 #[.nilIface];rwa [World.size_alloc, World.size_alloc] at this
 have hb0 : RowKit.Below w.heap.size w (((w.alloc (.cells #[.string x.q.who.ty, .string x.q.who.id, .string x.q.act.ty, .string x.q.act.id, .string x.q.what.ty, .string x.q.what.id, .slice x.qa x.q.ctx.length x.qc] 39)).alloc (.cells #[.slice none 0 0] 22)).alloc (.cells #[.nilIface] 27)) := by (repeat (first | assumption | exact Below.refl _ _ | apply Below.drew | apply below_drewN | (refine Below.alloc ?_ (by first | exact Nat.le_refl _ | omega | (simp; done) | (simp; omega)) _)))
 have he0 : errV (entErr x.es) = .nilIface := by rw [h0]; rfl
 have he00 : errV (rqErr x.q) = .nilIface := by rw [h00]; rfl
 have he1 : errV (treeErr x.e) = .nilIface := by rw [h1]; rfl
 obtain ⟨hl200, hex⟩ := (tree_iff x.e).1 h1;have HNX := Lib.hid (fun W (hb : RowKit.Below w.heap.size w W) => (next_all x hf 200 x.e hl200 hl200 hex) 0 W.heap.size [] (W.alloc (.cells (x.cells 0) 99)) (by simp) ((h.later hb).evin h0 h00 hl200 ((RowKit.Below.refl _ W).alloc (Nat.le_refl _) _)) (Blk.new W _ _));have hvv : ∀ v, evX x.es x.q x.e = .ok v → v.length ≤ 200 ∧ v ≠ [] := fun v hv => by
  have hv0 : valErr v = 0 := evE_vx h00 x.e.length x.e hex hv;have h2 := (val_iff v).1 hv0;obtain ⟨y, r, e, _⟩ := h2.2.ne;exact ⟨h2.1, by rw [e]; simp⟩
 have HVL := Lib.hid (fun v (hv : evX x.es x.q x.e = .ok v) => (hvv v hv).1);have HNE := Lib.hid (fun v (hv : evX x.es x.q x.e = .ok v) => (hvv v hv).2);obtain ⟨q, hq⟩ : ∃ q, q = evX x.es x.q x.e := ⟨_, rfl⟩;rw [← hq] at HNX HVL HNE ⊢;clear hvv hq h0 h00 h1 hf hl200 hex;clear h;go_enter_defers Tryz.func19, Tryz.ntmps19
 go_wp2_with fail
 generalize (((w.alloc (.cells #[.string x.q.who.ty, .string x.q.who.id, .string x.q.act.ty, .string x.q.act.id, .string x.q.what.ty, .string x.q.what.id, .slice x.qa x.q.ctx.length x.qc] 39)).alloc (.cells #[.slice none 0 0] 22)).alloc (.cells #[.nilIface] 27)) = w1 at b0 b1 b2 hb0 ⊢;have B01 := Lib.hid b0;have B11 := Lib.hid b1;have B21 := Lib.hid b2;have BW1 := Lib.hid hb0;clear b0 b1 b2 hb0;refine (HE.out w1 BW1.out).mono ?_;rintro r w2 ⟨hr, hb2⟩;rw [he0] at hr;subst hr;have B02 := Lib.hid (B01.out.below hb2 B01.out.lt);have B12 := Lib.hid (B11.out.below hb2 B11.out.lt);have B22 := Lib.hid (B21.out.below hb2 B21.out.lt);have BW2 := Lib.hid (BW1.out.trans (hb2.mono BW1.out.size));clear hb2;have q20 : w2.cell? ⟨w.heap.size, 0, none⟩ = some (.string x.q.who.ty) := B02.out.cell 0;have q21 : w2.cell? ⟨w.heap.size, 1, none⟩ = some (.string x.q.who.id) := B02.out.cell 1;have q22 : w2.cell? ⟨w.heap.size, 2, none⟩ = some (.string x.q.act.ty) := B02.out.cell 2;have q23 : w2.cell? ⟨w.heap.size, 3, none⟩ = some (.string x.q.act.id) := B02.out.cell 3;have q24 : w2.cell? ⟨w.heap.size, 4, none⟩ = some (.string x.q.what.ty) := B02.out.cell 4;have q25 : w2.cell? ⟨w.heap.size, 5, none⟩ = some (.string x.q.what.id) := B02.out.cell 5;have q26 : w2.cell? ⟨w.heap.size, 6, none⟩ = some (.slice x.qa x.q.ctx.length x.qc) := B02.out.cell 6;go_wp2_with fail
 refine (HA.out w2 BW2.out).mono ?_;rintro r w3 ⟨hr, hb3⟩;rw [he00] at hr;subst hr;have B03 := Lib.hid (B02.out.below hb3 B02.out.lt);have B13 := Lib.hid (B12.out.below hb3 B12.out.lt);have B23 := Lib.hid (B22.out.below hb3 B22.out.lt);have BW3 := Lib.hid (BW2.out.trans (hb3.mono BW2.out.size));clear hb3;go_wp2_with fail
 refine (HT.out w3 BW3.out).mono ?_;rintro r w4 ⟨hr, hb4⟩;rw [he1] at hr;subst hr;have B04 := Lib.hid (B03.out.below hb4 B03.out.lt);have B14 := Lib.hid (B13.out.below hb4 B13.out.lt);have B24 := Lib.hid (B23.out.below hb4 B23.out.lt);have BW4 := Lib.hid (BW3.out.trans (hb4.mono BW3.out.size));clear hb4;have q40 : w4.cell? ⟨w.heap.size, 0, none⟩ = some (.string x.q.who.ty) := B04.out.cell 0;have q41 : w4.cell? ⟨w.heap.size, 1, none⟩ = some (.string x.q.who.id) := B04.out.cell 1;have q42 : w4.cell? ⟨w.heap.size, 2, none⟩ = some (.string x.q.act.ty) := B04.out.cell 2;have q43 : w4.cell? ⟨w.heap.size, 3, none⟩ = some (.string x.q.act.id) := B04.out.cell 3;have q44 : w4.cell? ⟨w.heap.size, 4, none⟩ = some (.string x.q.what.ty) := B04.out.cell 4;have q45 : w4.cell? ⟨w.heap.size, 5, none⟩ = some (.string x.q.what.id) := B04.out.cell 5;have q46 : w4.cell? ⟨w.heap.size, 6, none⟩ = some (.slice x.qa x.q.ctx.length x.qc) := B04.out.cell 6;clear he0 he00 he1;go_wp2_with fail
 refine (HNX.out w4 BW4.out).mono ?_;rintro r w6 ⟨g1, g2, ho6⟩;have hz4 := BW4.out.size;have hB16 : Blk w6 (w.heap.size + 1) 22 #[.slice none 0 0] := (B14.out.alloc _).only ho6 (by have := B14.out.lt; simp; omega) (by have := B14.out.lt; omega);have hB26 : Blk w6 (w.heap.size + 1 + 1) 27 #[.nilIface] := (B24.out.alloc _).only ho6 (by have := B24.out.lt; simp; omega) (by have := B24.out.lt; omega);have hbw6 : RowKit.Below w.heap.size w w6 := (BW4.out.alloc BW4.out.size _).trans (ho6.below (by simp; omega) (by omega));have c1 : w6.cell? ⟨w.heap.size + 1, 0, none⟩ = some (.slice none 0 0) := hB16.cell 0;have f1 : w6.frozen? ⟨w.heap.size + 1, 0, none⟩ = false := hB16.frozen 0;have c2 : w6.cell? ⟨w.heap.size + 1 + 1, 0, none⟩ = some .nilIface := hB26.cell 0;have f2 : w6.frozen? ⟨w.heap.size + 1 + 1, 0, none⟩ = false := hB26.frozen 0;have BW6 := Lib.hid hbw6;have HB16 := Lib.hid hB16;have HB26 := Lib.hid hB26;clear hB16 hB26 hbw6;cases q with
 | bad k =>
  have hr := g2 k rfl;subst hr;clear g1 g2 ho6;go_wp2_with fail
  refine leaves_cons (f := 50) (args := #[.pointer (some ⟨w.heap.size + 1, 0, none⟩), .pointer (some ⟨w.heap.size + 1 + 1, 0, none⟩)]) (by simp) (by simp [go_sem]) ?_;refine (ev_catch ⟨w.heap.size + 1, 0, none⟩ ⟨w.heap.size + 1 + 1, 0, none⟩ _ _ k _ c1 f1 c2 f2 (by simp)).mono ?_;rintro e' u' w'' ⟨rfl, rfl, rfl⟩;have hcA : (w6.setCell ⟨w.heap.size + 1, 0, none⟩ (.slice none 0 0)).cell? ⟨w.heap.size + 1, 0, none⟩ = some (.slice none 0 0) := World.cell?_setCell_same _ _ _ c1;have hcB : ((w6.setCell ⟨w.heap.size + 1, 0, none⟩ (.slice none 0 0)).setCell ⟨w.heap.size + 1 + 1, 0, none⟩ (.iface 96 (.int .i64 k))).cell? ⟨w.heap.size + 1 + 1, 0, none⟩ = some (.iface 96 (.int .i64 k)) :=
   World.cell?_setCell_same _ _ _ ((World.cell?_of_block (w := w6) (a := ⟨w.heap.size + 1 + 1, 0, none⟩) (RowKit.Below.heap_setCell _ _ _ _ (by simp))).trans c2)
  have hbF : RowKit.Below w.heap.size w ((w6.setCell ⟨w.heap.size + 1, 0, none⟩ (.slice none 0 0)).setCell ⟨w.heap.size + 1 + 1, 0, none⟩ (.iface 96 (.int .i64 k))) := (BW6.out.setCell (by simp) _).setCell (by show _ ≤ w.heap.size + 1 + 1; omega) _;simp [Leaves, settle, results, Tryz.results19, go_sem, hcA, hcB, hbF]
 | ok v =>
  obtain ⟨A, c, rfl, k1, k2, k3, -⟩ := g1 v rfl;have HCL := Lib.hid (clone_value v A c w6 k3.sl (HVL.out v rfl));clear g1 g2 ho6;go_wp2_with fail
  refine HCL.out.mono ?_;rintro r w7 ⟨A7, c7, rfl, l1, l2, l3, hb7⟩;have d1 : w7.cell? ⟨w.heap.size + 1, 0, none⟩ = some (.slice none 0 0) := (HB16.out.below hb7 HB16.out.lt).cell 0;have e1 : w7.frozen? ⟨w.heap.size + 1, 0, none⟩ = false := (HB16.out.below hb7 HB16.out.lt).frozen 0;have d2 : w7.cell? ⟨w.heap.size + 1 + 1, 0, none⟩ = some .nilIface := (HB26.out.below hb7 HB26.out.lt).cell 0;have e2 : w7.frozen? ⟨w.heap.size + 1 + 1, 0, none⟩ = false := (HB26.out.below hb7 HB26.out.lt).frozen 0;have BW7 := Lib.hid (BW6.out.trans (hb7.mono BW6.out.size));have L3 := Lib.hid l3;clear l3 hb7;go_wp2_with fail
  refine leaves_cons (f := 50) (args := #[.pointer (some ⟨w.heap.size + 1, 0, none⟩), .pointer (some ⟨w.heap.size + 1 + 1, 0, none⟩)]) (by simp) (by simp [go_sem]) ?_;refine (ev_idle ⟨w.heap.size + 1, 0, none⟩ ⟨w.heap.size + 1 + 1, 0, none⟩ _).mono ?_;rintro e' u' w'' ⟨rfl, rfl, rfl⟩;have hcA7 : (w7.setCell ⟨w.heap.size + 1, 0, none⟩ (.slice A7 v.length c7)).cell? ⟨w.heap.size + 1, 0, none⟩ = some (.slice A7 v.length c7) := World.cell?_setCell_same _ _ _ d1;have hcB7 : ((w7.setCell ⟨w.heap.size + 1, 0, none⟩ (.slice A7 v.length c7)).setCell ⟨w.heap.size + 1 + 1, 0, none⟩ .nilIface).cell? ⟨w.heap.size + 1 + 1, 0, none⟩ = some .nilIface :=
   World.cell?_setCell_same _ _ _ ((World.cell?_of_block (w := w7) (a := ⟨w.heap.size + 1 + 1, 0, none⟩) (RowKit.Below.heap_setCell _ _ _ _ (by simp))).trans d2)
  have hbF : RowKit.Below w.heap.size w ((w7.setCell ⟨w.heap.size + 1, 0, none⟩ (.slice A7 v.length c7)).setCell ⟨w.heap.size + 1 + 1, 0, none⟩ .nilIface) := (BW7.out.setCell (by simp) _).setCell (by show _ ≤ w.heap.size + 1 + 1; omega) _;have hz6 : w.heap.size + 1 + 1 < w6.heap.size := HB26.out.lt;have hN : NdsNewE w (.returned (.tuple #[.slice A7 v.length c7, errV 0])) ((w7.setCell ⟨w.heap.size + 1, 0, none⟩ (.slice A7 v.length c7)).setCell ⟨w.heap.size + 1 + 1, 0, none⟩ .nilIface) v 0 := by
   obtain ⟨b, o, e1', e2', e3', e4'⟩ := L3.out (fun b => b < w6.heap.size) (fun b h => h) (HNE.out v rfl);have hc : ∀ i, ((w7.setCell ⟨w.heap.size + 1, 0, none⟩ (.slice A7 v.length c7)).setCell ⟨w.heap.size + 1 + 1, 0, none⟩ .nilIface).cell? ⟨b, i, none⟩ = w7.cell? ⟨b, i, none⟩ := fun i =>
    World.cell?_of_block (w := w7) (a := ⟨b, i, none⟩) ((RowKit.Below.heap_setCell _ _ _ _ (by show b ≠ w.heap.size + 1 + 1; omega)).trans (RowKit.Below.heap_setCell _ _ _ _ (by show b ≠ w.heap.size + 1; omega)))
   refine ⟨A7, c7, rfl, l1, l2, fun _ => ⟨b, o, e1', by simpa [World.setCell] using e2', fun i y hy => ?_⟩, hbF, fun b' o' e => ?_⟩
   · obtain ⟨q0, q1, q2, q3⟩ := e4' i y hy;exact ⟨(hc _).trans q0, (hc _).trans q1, (hc _).trans q2, (hc _).trans q3⟩
   · rw [e] at e1'; injection e1' with e1'; injection e1' with e1' _; omega
  simp [Leaves, settle, results, Tryz.results19, go_sem, hcA7, hcB7];exact hN
end Go.Proofs.YtpheiojmcafolaaGreatDoor
namespace Go.Proofs.YtpheiojmcafolaaGreatDoor
set_option maxRecDepth 100000
def BadNZ {α : Type} (r : Rs α) : Prop := ∀ k, r = .bad k → k ≠ 0
theorem nz_ok {α : Type} (v : α) : BadNZ (.ok v) := fun _ h => nomatch h
theorem nz_bad {α : Type} {k : Int} (h : k ≠ 0) : BadNZ (.bad k : Rs α) := fun j e => by injection e with e; rw [← e]; exact h
theorem nz_guard {α : Type} {k : Int} {b : Rs α} (hb : BadNZ b) : BadNZ (if k ≠ 0 then .bad k else b) := by
 by_cases h : k ≠ 0
 · rw [if_pos h]; exact nz_bad h
 · rw [if_neg h]; exact hb
theorem nz_ite {α : Type} {c : Prop} [Decidable c] {a b : Rs α} (ha : BadNZ a) (hb : BadNZ b) : BadNZ (if c then a else b) := by
 by_cases h : c
 · rw [if_pos h]; exact ha
 · rw [if_neg h]; exact hb
theorem nz_bind {α β : Type} {r : Rs α} {f : α → Rs β} (hr : BadNZ r) (hf : ∀ v, BadNZ (f v)) : BadNZ (r.bind f) := by
 cases r with
 | ok v => exact hf v
 | bad k => exact nz_bad (hr k rfl)
theorem nz_must {r : Rs (List Nd)} {op : Int} (h : BadNZ r) : BadNZ (mustV r op) := nz_bind h fun v => nz_ite (nz_ok _) (nz_bad (by decide))
theorem nz_num (op a b : Int) : BadNZ (numR op a b) := nz_ite (nz_ite (nz_ok _) (nz_bad (by decide))) (nz_ite (nz_ite (nz_ok _) (nz_bad (by decide))) (nz_ite (nz_ite (nz_ok _) (nz_bad (by decide))) (nz_bad (by decide))))
theorem nz_like (p s : List UInt8) : BadNZ (likeR p s) := nz_guard (nz_guard (nz_ok _))
theorem nz_parts (v : List Nd) : BadNZ (partsR v) := nz_guard (nz_ite (nz_ok _) (nz_ite (nz_ok _) (nz_bad (by decide))))
theorem nz_get (v : List Nd) (s : ByteArray) : BadNZ (getR v s) := fun _ h => getR_bad h
theorem nz_recOf (es : List En) (v : List Nd) : BadNZ (recOf es v) := fun _ h => by rw [recOf_bad h]; decide
theorem nz_set (vs : List (List Nd)) : BadNZ (setR vs) := fun _ h => set_bad h
theorem nz_rec (fs : List (ByteArray × List Nd)) : BadNZ (recR fs) := fun _ h => rec_bad h
theorem nz_single (es : List En) (x : Nd) (v : List Nd) : BadNZ (singleR es x v) :=
 nz_ite (nz_bind (nz_must (nz_ok _)) fun _ => nz_ok _) (nz_ite (nz_bind (nz_must (nz_ok _)) fun _ => nz_bind (nz_num _ _ _) fun _ => nz_ok _)
  (nz_ite (nz_bind (nz_must (nz_ok _)) fun _ => nz_bind (nz_like _ _) fun _ => nz_ok _) (nz_ite (nz_bind (nz_must (nz_ok _)) fun _ => nz_ok _)
   (nz_bind (nz_recOf _ _) fun r => by
    cases r with
    | none => exact nz_ite (nz_ok _) (nz_bad (by decide))
    | some r =>
     refine nz_ite ?_ (nz_get _ _);cases getR r x.s with
     | ok _ => exact nz_ok _
     | bad _ => exact nz_ok _))))
theorem nz_bagTwo (f : List (List Nd) → List (List Nd) → Bool) (a b : List Nd) : BadNZ (bagTwo f a b) := by
 unfold bagTwo;repeat (first | exact nz_ok _ | exact nz_bad (by decide) | refine nz_guard ?_ | refine nz_ite ?_ ?_ | refine nz_bind (nz_parts _) fun _ => ?_)
theorem nz_bagHas (a b : List Nd) : BadNZ (bagHas a b) := by
 unfold bagHas;repeat (first | exact nz_ok _ | exact nz_bad (by decide) | refine nz_guard ?_ | refine nz_ite ?_ ?_ | refine nz_bind (nz_parts _) fun _ => ?_)
theorem nz_in (es : List En) (a b : List Nd) : BadNZ (inR' es a b) :=
 nz_bind (nz_must (nz_ok _)) fun _ => nz_bind (nz_ite (nz_parts _) (nz_ok _)) fun _ => nz_ite (nz_ok _) (nz_bad (by decide))
theorem nz_double (es : List En) (op : Int) (a b : List Nd) : BadNZ (doubleR es op a b) :=
 nz_ite (nz_ok _) (nz_ite (nz_bind (nz_in _ _ _) fun _ => nz_ok _) (nz_ite (nz_bind (nz_bagHas _ _) fun _ => nz_ok _) (nz_ite (nz_bind (nz_bagTwo _ _ _) fun _ => nz_ok _) (nz_ite (nz_bind (nz_bagTwo _ _ _) fun _ => nz_ok _)
  (nz_bind (nz_must (nz_ok _)) fun _ => nz_bind (nz_must (nz_ok _)) fun _ => nz_ite (nz_ok _) (nz_ite (nz_ok _) (nz_bind (nz_num _ _ _) fun _ => nz_ok _)))))))
theorem nz_named (q : Rq) (s : List UInt8) : BadNZ (namedR q s) := nz_ite (nz_ok _) (nz_ite (nz_ok _) (nz_ite (nz_ok _) (nz_ite (nz_ok _) (nz_bad (by decide)))))
theorem nz_either {op : Int} {a b : Rs (List Nd)} (ha : BadNZ a) (hb : BadNZ b) : BadNZ (eitherR op a b) := nz_bind (nz_must ha) fun _ => nz_ite (nz_ok _) (nz_must hb)
theorem nz_choice {c a b : Rs (List Nd)} (hc : BadNZ c) (ha : BadNZ a) (hb : BadNZ b) : BadNZ (choiceR c a b) := nz_bind (nz_must hc) fun _ => nz_ite ha hb
theorem nz_all {α : Type} : ∀ {l : List (Rs α)}, (∀ r ∈ l, BadNZ r) → BadNZ (allR l)
 | [], _ => nz_ok _
 | r :: l, h => nz_bind (h r (by simp)) fun _ => nz_bind (nz_all fun q hq => h q (by simp [hq])) fun _ => nz_ok _
theorem nz_ev (es : List En) (q : Rq) : ∀ (N : Nat) (xs : List Nd), xs.length ≤ N → Ex (.one false) xs → BadNZ (evX es q xs)
 | 0, xs, hN, h => by
  obtain ⟨y, r, e, _⟩ := ex_ne h;rw [e] at hN; simp at hN
 | N + 1, xs, hN, h => by
  cases h with
  | one n body _ hs h7 hb =>
   obtain ⟨ps, hc, hfl, hK⟩ := ex_pieces hb;subst hfl;have hex := exk_all hK;have h7' : ¬ n.op = 7 := (by simpa using h7);rw [List.length_cons] at hN;have hin : ∀ p ∈ ps, ¬ n.op = 6 → Ex (.one false) p := fun p hp h6 => by
    have := hex p hp;rwa [show (n.op == 6) = false by simp [h6]] at this
   have ih : ¬ n.op = 6 → ∀ p ∈ ps, BadNZ (evX es q p) := fun h6 p hp => by
    have := part_le hp;exact nz_ev es q N p (by omega) (hin p hp h6)
   have hcase : (n.op = 1 ∨ n.op = 2 ∨ n.op = 3 ∨ n.op = 4 ∨ n.op = 8) ∧ ps.length = 0 ∨ (n.op = 5 ∨ n.op = 6) ∧ n.n = ps.length ∨ (n.op = 9 ∨ n.op = 10 ∨ n.op = 21 ∨ n.op = 22 ∨ n.op = 23 ∨ n.op = 24) ∧ ps.length = 1 ∨
    (n.op = 11 ∨ n.op = 12 ∨ n.op = 14 ∨ n.op = 15 ∨ n.op = 16 ∨ n.op = 17 ∨ n.op = 18 ∨ n.op = 19 ∨ n.op = 20 ∨ n.op = 25 ∨ n.op = 26 ∨ n.op = 27) ∧ ps.length = 2 ∨ n.op = 13 ∧ ps.length = 3 := by
    unfold ndParts at hc;unfold shapedT at hs;by_cases a1 : n.op = 1 ∨ n.op = 2 ∨ n.op = 3 ∨ n.op = 4 ∨ n.op = 8
    · rw [if_pos a1] at hc; left; exact ⟨a1, by simpa using hc⟩
    rw [if_neg a1] at hc;by_cases a2 : n.op = 5 ∨ n.op = 6
    · rw [if_pos a2] at hc;rw [if_neg (by omega), if_pos a2] at hs;simp only [Bool.and_eq_true, decide_eq_true_eq] at hs;right; left; exact ⟨a2, by have := hs.1.1; omega⟩
    rw [if_neg a2] at hc;by_cases a3 : n.op = 7 ∨ n.op = 9 ∨ n.op = 10 ∨ n.op = 21 ∨ n.op = 22 ∨ n.op = 23 ∨ n.op = 24
    · rw [if_pos a3] at hc; right; right; left; exact ⟨by omega, by simpa using hc⟩
    rw [if_neg a3] at hc;by_cases a4 : n.op = 11 ∨ n.op = 12 ∨ n.op = 14 ∨ n.op = 15 ∨ n.op = 16 ∨ n.op = 17 ∨ n.op = 18 ∨ n.op = 19 ∨ n.op = 20 ∨ n.op = 25 ∨ n.op = 26 ∨ n.op = 27
    · rw [if_pos a4] at hc; right; right; right; left; exact ⟨a4, by simpa using hc⟩
    rw [if_neg a4] at hc;by_cases a5 : n.op = 13
    · rw [if_pos a5] at hc; right; right; right; right; exact ⟨a5, by simpa using hc⟩
    · exfalso
      rw [if_neg (by omega), if_neg a2, if_neg (by omega), if_neg (by omega), if_neg (by omega)] at hs;simp only [Bool.and_eq_true, decide_eq_true_eq] at hs;have h1 := hs.1.1.1;unfold ndParts at h1;rw [if_neg a1, if_neg a2, if_neg a3, if_neg a4, if_neg a5] at h1;omega
   rcases hcase with ⟨ho, hlen⟩ | ⟨ho, hn⟩ | ⟨ho, hlen⟩ | ⟨ho, hlen⟩ | ⟨ho, hlen⟩
   · obtain rfl := List.eq_nil_of_length_eq_zero hlen;rw [List.flatten_nil];rcases (show (n.op = 1 ∨ n.op = 2 ∨ n.op = 3 ∨ n.op = 4) ∨ n.op = 8 by omega) with e | e
     · rw [evX_leaf es q e]; exact nz_ok _
     · rw [evX_var es q e]; exact nz_named _ _
   · rw [evX_node es q hex];unfold nodeR;rw [if_neg (by omega), if_neg (by omega)];by_cases h6 : n.op = 6
     · rw [show (n.op == 5) = false by simp [h6], show (n.op == 6) = true by simp [h6]];refine nz_bind (nz_all fun r hr => ?_) fun _ => nz_rec _;obtain ⟨p, hp, rfl⟩ := List.mem_map.1 hr;have h1 := hex p hp;rw [show (n.op == 6) = true by simp [h6]] at h1;obtain ⟨g1, g2⟩ := fld_tail h1;have := part_le hp;exact nz_ev es q N p.tail (by omega) g1
     · have h5 : n.op = 5 := (by omega);rw [show (n.op == 5) = true by simp [h5], show (n.op == 6) = false by simp [h6]];refine nz_bind (nz_all fun r hr => ?_) fun _ => nz_set _;obtain ⟨p, hp, rfl⟩ := List.mem_map.1 hr;exact ih h6 p hp
   · match ps, hlen with
     | [a], _ =>
      have h6 : ¬ n.op = 6 := (by omega);rw [show [a].flatten = a by simp, evX_one es q ho (hin a (by simp) h6)];exact nz_bind (ih h6 a (by simp)) fun _ => nz_single _ _ _
   · match ps, hlen with
     | [a, b], _ =>
      have h6 : ¬ n.op = 6 := (by omega);rw [show [a, b].flatten = a ++ b by simp];by_cases h11 : n.op = 11 ∨ n.op = 12
      · rw [evX_and es q h11 (hin a (by simp) h6) (hin b (by simp) h6)];exact nz_either (ih h6 a (by simp)) (ih h6 b (by simp))
      · rw [evX_two es q (by omega) (hin a (by simp) h6) (hin b (by simp) h6)];exact nz_bind (ih h6 a (by simp)) fun _ => nz_bind (ih h6 b (by simp)) fun _ => nz_double _ _ _ _
   · match ps, hlen with
     | [c, a, b], _ =>
      have h6 : ¬ n.op = 6 := (by omega);rw [show [c, a, b].flatten = c ++ (a ++ b) by simp, evX_if es q ho (hin c (by simp) h6) (hin a (by simp) h6) (hin b (by simp) h6)];exact nz_choice (ih h6 c (by simp)) (ih h6 a (by simp)) (ih h6 b (by simp))
end Go.Proofs.YtpheiojmcafolaaGreatDoor
namespace Go.Proofs.YtpheiojmcafolaaGreatDoor
set_option maxRecDepth 100000
open Go.RowKit Go.Sort
theorem few_of {e : List Nd} (h0 : treeErr e = 0) : ∀ y ∈ e, 0 ≤ ndParts y ∧ ndParts y ≤ 200 := fun y hy => by
 obtain ⟨j, hj⟩ := List.getElem?_of_mem hy;obtain ⟨s, hs, hsl⟩ := tree_at h0 hj;obtain ⟨_, _, q1, q2⟩ := bGo_parts hs hj;have := (tree_len h0).1;omega
theorem eval_Value (x : Evl) (w : World) (h : VaIn x w) :
 Calls Tryz.prog 19 #[.slice x.Ea x.hs.length x.ec, .agg #[.string x.q.who.ty, .string x.q.who.id, .string x.q.act.ty, .string x.q.act.id, .string x.q.what.ty, .string x.q.what.id, .slice x.qa x.q.ctx.length x.qc], .slice x.ea x.e.length x.eca] w fun r w' => NdsNewE w r w' (rsL (valueR x.es x.q x.e)) (rsE (valueR x.es x.q x.e)) := by
 unfold valueR;by_cases h1 : entErr x.es = 0
 case neg =>
  rw [if_pos h1];refine (value_1 x w h h1).mono ?_;rintro r w' ⟨rfl, hb⟩;exact NdsNewE.none hb
 rw [if_neg (by simp [h1])];by_cases h2 : rqErr x.q = 0
 case neg =>
  rw [if_pos h2];refine (value_2 x w h h1 h2).mono ?_;rintro r w' ⟨rfl, hb⟩;exact NdsNewE.none hb
 rw [if_neg (by simp [h2])];by_cases h3 : treeErr x.e = 0
 case neg =>
  rw [if_pos h3];refine (value_3 x w h h1 h2 h3).mono ?_;rintro r w' ⟨rfl, hb⟩;exact NdsNewE.none hb
 rw [if_neg (by simp [h3])];refine (value_4 x w h h1 h2 h3 (few_of h3)).mono ?_;rintro r w' ⟨g1, g2⟩;have hne : ∀ k, evE x.es x.q x.e.length x.e = .bad k → k ≠ 0 := fun k hk => nz_ev x.es x.q _ x.e (Nat.le_refl _) ((tree_iff x.e).1 h3).2 k hk;cases hq : evE x.es x.q x.e.length x.e with
 | ok v => exact g1 v hq
 | bad k =>
  obtain ⟨rfl, hb⟩ := g2 k hq;have := NdsNewE.none (k := k) hb;unfold errV at this;rw [if_neg (hne k hq)] at this;exact this
end Go.Proofs.YtpheiojmcafolaaGreatDoor
