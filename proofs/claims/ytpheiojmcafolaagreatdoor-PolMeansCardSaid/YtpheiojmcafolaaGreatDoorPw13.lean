/-
  THE WALK of the law PolMeans (printed by mkpml.py).
-/
import Derived.Test.YtpheiojmcafolaaGreatDoorPw08
import Derived.Test.YtpheiojmcafolaaGreatDoorPw12
import Derived.Test.YtpheiojmcafolaaGreatDoorPw06
namespace Go.Proofs.YtpheiojmcafolaaGreatDoor
set_option maxRecDepth 100000
open Go.RowKit Go.Sort
theorem valueR_ev {es : List En} {q : Rq} {e : List Nd} (h1 : entErr es = 0) (h2 : rqErr q = 0) (h3 : treeErr e = 0) : valueR es q e = evX es q e := by
 unfold valueR
 rw [if_neg (by simp [h1]), if_neg (by simp [h2]), if_neg (by simp [h3])]
 rfl
def PmV (C : Rs Bool) (L : List Nd) (k : Int) : Prop := (∃ B, C = .ok B ∧ L = [bN B] ∧ k = 0) ∨ (C = .bad k ∧ L = [] ∧ k ≠ 0)
theorem pmV_of {C : Rs Bool} {V : Rs (List Nd)} (h : V = C.bind fun b => .ok [bN b]) (hn : ∀ k, V = .bad k → k ≠ 0) : PmV C (rsL V) (rsE V) := by
 subst h
 cases C with
 | ok B => exact .inl ⟨B, rfl, rfl, rfl⟩
 | bad k => exact .inr ⟨rfl, rfl, hn k rfl⟩
def PmS (pb b o i : Nat) (x : Aq) (y : PoM) (z : CdM) (wr W : World) : Prop :=
 W.cell? ⟨pb + 1, 0, none⟩ = some (.string x.q.who.ty) ∧ W.cell? ⟨pb + 1, 1, none⟩ = some (.string x.q.who.id) ∧ W.cell? ⟨pb + 1, 2, none⟩ = some (.string x.q.act.ty) ∧ W.cell? ⟨pb + 1, 3, none⟩ = some (.string x.q.act.id) ∧ W.cell? ⟨pb + 1, 4, none⟩ = some (.string x.q.what.ty) ∧ W.cell? ⟨pb + 1, 5, none⟩ = some (.string x.q.what.id) ∧ W.cell? ⟨pb + 1, 6, none⟩ = some (.slice x.qa x.q.ctx.length x.qc) ∧ W.cell? ⟨pb, 14, none⟩ = some (.slice (some ⟨b, o, none⟩) y.cs.length y.c) ∧ W.cell? ⟨b, o + i * 2, none⟩ = some (.bool z.u) ∧ W.cell? ⟨b, o + i * 2 + 1, none⟩ = some (.slice z.A z.e.length z.c) ∧ RowKit.Below wr.heap.size wr W
theorem PmS.keep {pb b o i : Nat} {x : Aq} {y : PoM} {z : CdM} {wr W W' : World} (h : PmS pb b o i x y z wr W) (hb : RowKit.Below W.heap.size W W') (h1 : pb + 1 < wr.heap.size) (h2 : b < wr.heap.size) : PmS pb b o i x y z wr W' := by
 obtain ⟨c0, c1, c2, c3, c4, c5, c6, c7, c8, c9, hw⟩ := h
 have hz := hw.size
 have k1 := fun i => hb.cell (p := ⟨pb + 1, i, none⟩) (show pb + 1 < W.heap.size by omega)
 have k0 := fun i => hb.cell (p := ⟨pb, i, none⟩) (show pb < W.heap.size by omega)
 have kb := fun i => hb.cell (p := ⟨b, i, none⟩) (show b < W.heap.size by omega)
 exact ⟨(k1 _).trans c0, (k1 _).trans c1, (k1 _).trans c2, (k1 _).trans c3, (k1 _).trans c4, (k1 _).trans c5, (k1 _).trans c6, (k0 _).trans c7, (kb _).trans c8, (kb _).trans c9, hw.trans (hb.mono hz)⟩
def condP (es : List En) (q : Rq) (z : CdM) : Rs Bool := condR es q z.cd
def condsP (es : List En) (q : Rq) (zs : List CdM) : Rs Bool := condsR es q (zs.map CdM.cd)
theorem condsP_drop {es : List En} {q : Rq} {zs : List CdM} {i : Nat} {z : CdM} (hz : zs[i]? = some z) : condsP es q (zs.drop i) = (condP es q z).bind fun b => if b = true then condsP es q (zs.drop (i + 1)) else .ok false := by
 obtain ⟨h1, h2⟩ := List.getElem?_eq_some_iff.1 hz
 rw [List.drop_eq_getElem_cons h1, h2]
 rfl
theorem condP_val {es : List En} {q : Rq} {z : CdM} {V : Rs (List Nd)} (h : evX es q z.e = V) : condP es q z = (mustV V 1).bind fun v => .ok ((nH v == 1) != z.u) := by
 show (mustV (evX es q z.e) 1).bind _ = _
 rw [h]
 rfl
theorem sc_ge {s : Sc} (h1 : ¬ 5 ≤ s.op) : ¬ (s.op = 5 ∨ s.op = 6) := by omega
set_option maxHeartbeats 25600000 in
theorem pm_bad (x : Aq) (y : PoM) (w : World) (_hI : AqIn x w) (hy : PoMOk w w.heap.size y) (h : (exprP y.p).2 ≠ 0) :
   Calls Tryz.prog 4 #[.slice x.Ea x.hs.length x.ec, .agg #[.string y.p.name, .bool y.p.forbid, .int .i64 y.p.who.op, .string y.p.who.ty, .string y.p.who.uid.ty, .string y.p.who.uid.id, .int .i64 y.p.act.op, .string y.p.act.ty, .string y.p.act.uid.ty, .string y.p.act.uid.id, .int .i64 y.p.what.op, .string y.p.what.ty, .string y.p.what.uid.ty, .string y.p.what.uid.id, .slice y.A y.cs.length y.c], .agg #[.string x.q.who.ty, .string x.q.who.id, .string x.q.act.ty, .string x.q.act.id, .string x.q.what.ty, .string x.q.what.id, .slice x.qa x.q.ctx.length x.qc]] w fun r w' => r = .returned (.bool true) ∧ RowKit.Below w.heap.size w w' := by
 have hb0 : RowKit.Below w.heap.size w ((w.alloc (.cells #[.string y.p.name, .bool y.p.forbid, .int .i64 y.p.who.op, .string y.p.who.ty, .string y.p.who.uid.ty, .string y.p.who.uid.id, .int .i64 y.p.act.op, .string y.p.act.ty, .string y.p.act.uid.ty, .string y.p.act.uid.id, .int .i64 y.p.what.op, .string y.p.what.ty, .string y.p.what.uid.ty, .string y.p.what.uid.id, .slice y.A y.cs.length y.c] 47)).alloc (.cells #[.string x.q.who.ty, .string x.q.who.id, .string x.q.act.ty, .string x.q.act.id, .string x.q.what.ty, .string x.q.what.id, .slice x.qa x.q.ctx.length x.qc] 39)) := by (repeat (first | assumption | exact Below.refl _ _ | apply Below.drew | apply below_drewN | (refine Below.alloc ?_ (by first | exact Nat.le_refl _ | omega | (simp; done) | (simp; omega)) _)))
 have q0 : Blk ((w.alloc (.cells #[.string y.p.name, .bool y.p.forbid, .int .i64 y.p.who.op, .string y.p.who.ty, .string y.p.who.uid.ty, .string y.p.who.uid.id, .int .i64 y.p.act.op, .string y.p.act.ty, .string y.p.act.uid.ty, .string y.p.act.uid.id, .int .i64 y.p.what.op, .string y.p.what.ty, .string y.p.what.uid.ty, .string y.p.what.uid.id, .slice y.A y.cs.length y.c] 47)).alloc (.cells #[.string x.q.who.ty, .string x.q.who.id, .string x.q.act.ty, .string x.q.act.id, .string x.q.what.ty, .string x.q.what.id, .slice x.qa x.q.ctx.length x.qc] 39)) (w.heap.size + 1) 39 #[.string x.q.who.ty, .string x.q.who.id, .string x.q.act.ty, .string x.q.act.id, .string x.q.what.ty, .string x.q.what.id, .slice x.qa x.q.ctx.length x.qc] := by
   have := Blk.new (w.alloc (.cells #[.string y.p.name, .bool y.p.forbid, .int .i64 y.p.who.op, .string y.p.who.ty, .string y.p.who.uid.ty, .string y.p.who.uid.id, .int .i64 y.p.act.op, .string y.p.act.ty, .string y.p.act.uid.ty, .string y.p.act.uid.id, .int .i64 y.p.what.op, .string y.p.what.ty, .string y.p.what.uid.ty, .string y.p.what.uid.id, .slice y.A y.cs.length y.c] 47)) 39 #[.string x.q.who.ty, .string x.q.who.id, .string x.q.act.ty, .string x.q.act.id, .string x.q.what.ty, .string x.q.what.id, .slice x.qa x.q.ctx.length x.qc]
   rwa [World.size_alloc] at this
 have p0 : Blk ((w.alloc (.cells #[.string y.p.name, .bool y.p.forbid, .int .i64 y.p.who.op, .string y.p.who.ty, .string y.p.who.uid.ty, .string y.p.who.uid.id, .int .i64 y.p.act.op, .string y.p.act.ty, .string y.p.act.uid.ty, .string y.p.act.uid.id, .int .i64 y.p.what.op, .string y.p.what.ty, .string y.p.what.uid.ty, .string y.p.what.uid.id, .slice y.A y.cs.length y.c] 47)).alloc (.cells #[.string x.q.who.ty, .string x.q.who.id, .string x.q.act.ty, .string x.q.act.id, .string x.q.what.ty, .string x.q.what.id, .slice x.qa x.q.ctx.length x.qc] 39)) w.heap.size 47 #[.string y.p.name, .bool y.p.forbid, .int .i64 y.p.who.op, .string y.p.who.ty, .string y.p.who.uid.ty, .string y.p.who.uid.id, .int .i64 y.p.act.op, .string y.p.act.ty, .string y.p.act.uid.ty, .string y.p.act.uid.id, .int .i64 y.p.what.op, .string y.p.what.ty, .string y.p.what.uid.ty, .string y.p.what.uid.id, .slice y.A y.cs.length y.c] := (Blk.new w 47 #[.string y.p.name, .bool y.p.forbid, .int .i64 y.p.who.op, .string y.p.who.ty, .string y.p.who.uid.ty, .string y.p.who.uid.id, .int .i64 y.p.act.op, .string y.p.act.ty, .string y.p.act.uid.ty, .string y.p.act.uid.id, .int .i64 y.p.what.op, .string y.p.what.ty, .string y.p.what.uid.ty, .string y.p.what.uid.id, .slice y.A y.cs.length y.c]).alloc (.cells #[.string x.q.who.ty, .string x.q.who.id, .string x.q.act.ty, .string x.q.act.id, .string x.q.what.ty, .string x.q.what.id, .slice x.qa x.q.ctx.length x.qc] 39)
 have HP := Lib.hid (fun W (hW : RowKit.Below w.heap.size w W) => pol_Expr_any y.p y.cs y.A y.c W hy.same hy.z (hy.later hW).at_ (Nat.le_trans hy.le hy.max))
 have t1 : ((exprP y.p).2 != 0) = true := by simpa using h
 clear _hI hy h
 generalize (exprP y.p).2 = k at HP t1
 generalize (exprP y.p).1 = L at HP
 have HB0 := Lib.hid hb0
 have HP0 := Lib.hid p0
 have HQ0 := Lib.hid q0
 clear hb0 p0 q0
 go_enter Tryz.func4, Tryz.ntmps4
 go_wp2_with fail
 refine (pol_expr_a _).mono ?_
 rintro r w1 ⟨⟨A1, c1, rfl⟩, hb1⟩
 have HB1 := Lib.hid (HB0.out.trans (hb1.mono HB0.out.size))
 have HP1 := Lib.hid (HP0.out.below hb1 HP0.out.lt)
 have HQ1 := Lib.hid (HQ0.out.below hb1 HQ0.out.lt)
 have cc := HP1.out.cell
 have ll := HP1.out.lt
 clear hb1 HB0 HP0 HQ0
 go_wp2_with fail
 refine (HP.out _ HB1.out).mono ?_
 rintro r w2 ⟨A2, c2, rfl, hl2, hm2, hs2, hb2⟩
 have HB2 := Lib.hid (HB1.out.trans (hb2.mono HB1.out.size))
 have HP2 := Lib.hid (HP1.out.below hb2 ll)
 have HQ2 := Lib.hid (HQ1.out.below hb2 HQ1.out.lt)
 clear cc ll HP1 HQ1 HB1 hb2
 have cc := HP2.out.cell
 have ll := HP2.out.lt
 have dd := HQ2.out.cell
 have dl := HQ2.out.lt
 have HS2 := Lib.hid hs2
 clear hs2 HP
 go_wp2_with fail
 go_ret
 exact ⟨rfl, HB2.out⟩
set_option maxHeartbeats 25600000 in
theorem pm_who (x : Aq) (y : PoM) (w : World) (_hI : AqIn x w) (hy : PoMOk w w.heap.size y) (h0 : (exprP y.p).2 = 0) (h : 5 ≤ y.p.who.op) :
   Calls Tryz.prog 4 #[.slice x.Ea x.hs.length x.ec, .agg #[.string y.p.name, .bool y.p.forbid, .int .i64 y.p.who.op, .string y.p.who.ty, .string y.p.who.uid.ty, .string y.p.who.uid.id, .int .i64 y.p.act.op, .string y.p.act.ty, .string y.p.act.uid.ty, .string y.p.act.uid.id, .int .i64 y.p.what.op, .string y.p.what.ty, .string y.p.what.uid.ty, .string y.p.what.uid.id, .slice y.A y.cs.length y.c], .agg #[.string x.q.who.ty, .string x.q.who.id, .string x.q.act.ty, .string x.q.act.id, .string x.q.what.ty, .string x.q.what.id, .slice x.qa x.q.ctx.length x.qc]] w fun r w' => r = .returned (.bool true) ∧ RowKit.Below w.heap.size w w' := by
 have hb0 : RowKit.Below w.heap.size w ((w.alloc (.cells #[.string y.p.name, .bool y.p.forbid, .int .i64 y.p.who.op, .string y.p.who.ty, .string y.p.who.uid.ty, .string y.p.who.uid.id, .int .i64 y.p.act.op, .string y.p.act.ty, .string y.p.act.uid.ty, .string y.p.act.uid.id, .int .i64 y.p.what.op, .string y.p.what.ty, .string y.p.what.uid.ty, .string y.p.what.uid.id, .slice y.A y.cs.length y.c] 47)).alloc (.cells #[.string x.q.who.ty, .string x.q.who.id, .string x.q.act.ty, .string x.q.act.id, .string x.q.what.ty, .string x.q.what.id, .slice x.qa x.q.ctx.length x.qc] 39)) := by (repeat (first | assumption | exact Below.refl _ _ | apply Below.drew | apply below_drewN | (refine Below.alloc ?_ (by first | exact Nat.le_refl _ | omega | (simp; done) | (simp; omega)) _)))
 have q0 : Blk ((w.alloc (.cells #[.string y.p.name, .bool y.p.forbid, .int .i64 y.p.who.op, .string y.p.who.ty, .string y.p.who.uid.ty, .string y.p.who.uid.id, .int .i64 y.p.act.op, .string y.p.act.ty, .string y.p.act.uid.ty, .string y.p.act.uid.id, .int .i64 y.p.what.op, .string y.p.what.ty, .string y.p.what.uid.ty, .string y.p.what.uid.id, .slice y.A y.cs.length y.c] 47)).alloc (.cells #[.string x.q.who.ty, .string x.q.who.id, .string x.q.act.ty, .string x.q.act.id, .string x.q.what.ty, .string x.q.what.id, .slice x.qa x.q.ctx.length x.qc] 39)) (w.heap.size + 1) 39 #[.string x.q.who.ty, .string x.q.who.id, .string x.q.act.ty, .string x.q.act.id, .string x.q.what.ty, .string x.q.what.id, .slice x.qa x.q.ctx.length x.qc] := by
   have := Blk.new (w.alloc (.cells #[.string y.p.name, .bool y.p.forbid, .int .i64 y.p.who.op, .string y.p.who.ty, .string y.p.who.uid.ty, .string y.p.who.uid.id, .int .i64 y.p.act.op, .string y.p.act.ty, .string y.p.act.uid.ty, .string y.p.act.uid.id, .int .i64 y.p.what.op, .string y.p.what.ty, .string y.p.what.uid.ty, .string y.p.what.uid.id, .slice y.A y.cs.length y.c] 47)) 39 #[.string x.q.who.ty, .string x.q.who.id, .string x.q.act.ty, .string x.q.act.id, .string x.q.what.ty, .string x.q.what.id, .slice x.qa x.q.ctx.length x.qc]
   rwa [World.size_alloc] at this
 have p0 : Blk ((w.alloc (.cells #[.string y.p.name, .bool y.p.forbid, .int .i64 y.p.who.op, .string y.p.who.ty, .string y.p.who.uid.ty, .string y.p.who.uid.id, .int .i64 y.p.act.op, .string y.p.act.ty, .string y.p.act.uid.ty, .string y.p.act.uid.id, .int .i64 y.p.what.op, .string y.p.what.ty, .string y.p.what.uid.ty, .string y.p.what.uid.id, .slice y.A y.cs.length y.c] 47)).alloc (.cells #[.string x.q.who.ty, .string x.q.who.id, .string x.q.act.ty, .string x.q.act.id, .string x.q.what.ty, .string x.q.what.id, .slice x.qa x.q.ctx.length x.qc] 39)) w.heap.size 47 #[.string y.p.name, .bool y.p.forbid, .int .i64 y.p.who.op, .string y.p.who.ty, .string y.p.who.uid.ty, .string y.p.who.uid.id, .int .i64 y.p.act.op, .string y.p.act.ty, .string y.p.act.uid.ty, .string y.p.act.uid.id, .int .i64 y.p.what.op, .string y.p.what.ty, .string y.p.what.uid.ty, .string y.p.what.uid.id, .slice y.A y.cs.length y.c] := (Blk.new w 47 #[.string y.p.name, .bool y.p.forbid, .int .i64 y.p.who.op, .string y.p.who.ty, .string y.p.who.uid.ty, .string y.p.who.uid.id, .int .i64 y.p.act.op, .string y.p.act.ty, .string y.p.act.uid.ty, .string y.p.act.uid.id, .int .i64 y.p.what.op, .string y.p.what.ty, .string y.p.what.uid.ty, .string y.p.what.uid.id, .slice y.A y.cs.length y.c]).alloc (.cells #[.string x.q.who.ty, .string x.q.who.id, .string x.q.act.ty, .string x.q.act.id, .string x.q.what.ty, .string x.q.what.id, .slice x.qa x.q.ctx.length x.qc] 39)
 have HP := Lib.hid (fun W (hW : RowKit.Below w.heap.size w W) => pol_Expr_any y.p y.cs y.A y.c W hy.same hy.z (hy.later hW).at_ (Nat.le_trans hy.le hy.max))
 rw [h0] at HP
 have t1 : decide (5 ≤ y.p.who.op) = true := by simpa using h
 clear _hI hy h h0
 generalize (exprP y.p).1 = L at HP
 have HB0 := Lib.hid hb0
 have HP0 := Lib.hid p0
 have HQ0 := Lib.hid q0
 clear hb0 p0 q0
 go_enter Tryz.func4, Tryz.ntmps4
 go_wp2_with fail
 refine (pol_expr_a _).mono ?_
 rintro r w1 ⟨⟨A1, c1, rfl⟩, hb1⟩
 have HB1 := Lib.hid (HB0.out.trans (hb1.mono HB0.out.size))
 have HP1 := Lib.hid (HP0.out.below hb1 HP0.out.lt)
 have HQ1 := Lib.hid (HQ0.out.below hb1 HQ0.out.lt)
 have cc := HP1.out.cell
 have ll := HP1.out.lt
 clear hb1 HB0 HP0 HQ0
 go_wp2_with fail
 refine (HP.out _ HB1.out).mono ?_
 rintro r w2 ⟨A2, c2, rfl, hl2, hm2, hs2, hb2⟩
 have HB2 := Lib.hid (HB1.out.trans (hb2.mono HB1.out.size))
 have HP2 := Lib.hid (HP1.out.below hb2 ll)
 have HQ2 := Lib.hid (HQ1.out.below hb2 HQ1.out.lt)
 clear cc ll HP1 HQ1 HB1 hb2
 have cc := HP2.out.cell
 have ll := HP2.out.lt
 have dd := HQ2.out.cell
 have dl := HQ2.out.lt
 have HS2 := Lib.hid hs2
 clear hs2 HP
 go_wp2_with fail
 go_ret
 exact ⟨rfl, HB2.out⟩
set_option maxHeartbeats 25600000 in
theorem pm_what (x : Aq) (y : PoM) (w : World) (_hI : AqIn x w) (hy : PoMOk w w.heap.size y) (h0 : (exprP y.p).2 = 0) (h1 : ¬ 5 ≤ y.p.who.op) (h : 5 ≤ y.p.what.op) :
   Calls Tryz.prog 4 #[.slice x.Ea x.hs.length x.ec, .agg #[.string y.p.name, .bool y.p.forbid, .int .i64 y.p.who.op, .string y.p.who.ty, .string y.p.who.uid.ty, .string y.p.who.uid.id, .int .i64 y.p.act.op, .string y.p.act.ty, .string y.p.act.uid.ty, .string y.p.act.uid.id, .int .i64 y.p.what.op, .string y.p.what.ty, .string y.p.what.uid.ty, .string y.p.what.uid.id, .slice y.A y.cs.length y.c], .agg #[.string x.q.who.ty, .string x.q.who.id, .string x.q.act.ty, .string x.q.act.id, .string x.q.what.ty, .string x.q.what.id, .slice x.qa x.q.ctx.length x.qc]] w fun r w' => r = .returned (.bool true) ∧ RowKit.Below w.heap.size w w' := by
 have hb0 : RowKit.Below w.heap.size w ((w.alloc (.cells #[.string y.p.name, .bool y.p.forbid, .int .i64 y.p.who.op, .string y.p.who.ty, .string y.p.who.uid.ty, .string y.p.who.uid.id, .int .i64 y.p.act.op, .string y.p.act.ty, .string y.p.act.uid.ty, .string y.p.act.uid.id, .int .i64 y.p.what.op, .string y.p.what.ty, .string y.p.what.uid.ty, .string y.p.what.uid.id, .slice y.A y.cs.length y.c] 47)).alloc (.cells #[.string x.q.who.ty, .string x.q.who.id, .string x.q.act.ty, .string x.q.act.id, .string x.q.what.ty, .string x.q.what.id, .slice x.qa x.q.ctx.length x.qc] 39)) := by (repeat (first | assumption | exact Below.refl _ _ | apply Below.drew | apply below_drewN | (refine Below.alloc ?_ (by first | exact Nat.le_refl _ | omega | (simp; done) | (simp; omega)) _)))
 have q0 : Blk ((w.alloc (.cells #[.string y.p.name, .bool y.p.forbid, .int .i64 y.p.who.op, .string y.p.who.ty, .string y.p.who.uid.ty, .string y.p.who.uid.id, .int .i64 y.p.act.op, .string y.p.act.ty, .string y.p.act.uid.ty, .string y.p.act.uid.id, .int .i64 y.p.what.op, .string y.p.what.ty, .string y.p.what.uid.ty, .string y.p.what.uid.id, .slice y.A y.cs.length y.c] 47)).alloc (.cells #[.string x.q.who.ty, .string x.q.who.id, .string x.q.act.ty, .string x.q.act.id, .string x.q.what.ty, .string x.q.what.id, .slice x.qa x.q.ctx.length x.qc] 39)) (w.heap.size + 1) 39 #[.string x.q.who.ty, .string x.q.who.id, .string x.q.act.ty, .string x.q.act.id, .string x.q.what.ty, .string x.q.what.id, .slice x.qa x.q.ctx.length x.qc] := by
   have := Blk.new (w.alloc (.cells #[.string y.p.name, .bool y.p.forbid, .int .i64 y.p.who.op, .string y.p.who.ty, .string y.p.who.uid.ty, .string y.p.who.uid.id, .int .i64 y.p.act.op, .string y.p.act.ty, .string y.p.act.uid.ty, .string y.p.act.uid.id, .int .i64 y.p.what.op, .string y.p.what.ty, .string y.p.what.uid.ty, .string y.p.what.uid.id, .slice y.A y.cs.length y.c] 47)) 39 #[.string x.q.who.ty, .string x.q.who.id, .string x.q.act.ty, .string x.q.act.id, .string x.q.what.ty, .string x.q.what.id, .slice x.qa x.q.ctx.length x.qc]
   rwa [World.size_alloc] at this
 have p0 : Blk ((w.alloc (.cells #[.string y.p.name, .bool y.p.forbid, .int .i64 y.p.who.op, .string y.p.who.ty, .string y.p.who.uid.ty, .string y.p.who.uid.id, .int .i64 y.p.act.op, .string y.p.act.ty, .string y.p.act.uid.ty, .string y.p.act.uid.id, .int .i64 y.p.what.op, .string y.p.what.ty, .string y.p.what.uid.ty, .string y.p.what.uid.id, .slice y.A y.cs.length y.c] 47)).alloc (.cells #[.string x.q.who.ty, .string x.q.who.id, .string x.q.act.ty, .string x.q.act.id, .string x.q.what.ty, .string x.q.what.id, .slice x.qa x.q.ctx.length x.qc] 39)) w.heap.size 47 #[.string y.p.name, .bool y.p.forbid, .int .i64 y.p.who.op, .string y.p.who.ty, .string y.p.who.uid.ty, .string y.p.who.uid.id, .int .i64 y.p.act.op, .string y.p.act.ty, .string y.p.act.uid.ty, .string y.p.act.uid.id, .int .i64 y.p.what.op, .string y.p.what.ty, .string y.p.what.uid.ty, .string y.p.what.uid.id, .slice y.A y.cs.length y.c] := (Blk.new w 47 #[.string y.p.name, .bool y.p.forbid, .int .i64 y.p.who.op, .string y.p.who.ty, .string y.p.who.uid.ty, .string y.p.who.uid.id, .int .i64 y.p.act.op, .string y.p.act.ty, .string y.p.act.uid.ty, .string y.p.act.uid.id, .int .i64 y.p.what.op, .string y.p.what.ty, .string y.p.what.uid.ty, .string y.p.what.uid.id, .slice y.A y.cs.length y.c]).alloc (.cells #[.string x.q.who.ty, .string x.q.who.id, .string x.q.act.ty, .string x.q.act.id, .string x.q.what.ty, .string x.q.what.id, .slice x.qa x.q.ctx.length x.qc] 39)
 have HP := Lib.hid (fun W (hW : RowKit.Below w.heap.size w W) => pol_Expr_any y.p y.cs y.A y.c W hy.same hy.z (hy.later hW).at_ (Nat.le_trans hy.le hy.max))
 rw [h0] at HP
 have t1 : decide (5 ≤ y.p.who.op) = false := by simpa using h1
 have t2 : decide (5 ≤ y.p.what.op) = true := by simpa using h
 clear _hI hy h h0 h1
 generalize (exprP y.p).1 = L at HP
 have HB0 := Lib.hid hb0
 have HP0 := Lib.hid p0
 have HQ0 := Lib.hid q0
 clear hb0 p0 q0
 go_enter Tryz.func4, Tryz.ntmps4
 go_wp2_with fail
 refine (pol_expr_a _).mono ?_
 rintro r w1 ⟨⟨A1, c1, rfl⟩, hb1⟩
 have HB1 := Lib.hid (HB0.out.trans (hb1.mono HB0.out.size))
 have HP1 := Lib.hid (HP0.out.below hb1 HP0.out.lt)
 have HQ1 := Lib.hid (HQ0.out.below hb1 HQ0.out.lt)
 have cc := HP1.out.cell
 have ll := HP1.out.lt
 clear hb1 HB0 HP0 HQ0
 go_wp2_with fail
 refine (HP.out _ HB1.out).mono ?_
 rintro r w2 ⟨A2, c2, rfl, hl2, hm2, hs2, hb2⟩
 have HB2 := Lib.hid (HB1.out.trans (hb2.mono HB1.out.size))
 have HP2 := Lib.hid (HP1.out.below hb2 ll)
 have HQ2 := Lib.hid (HQ1.out.below hb2 HQ1.out.lt)
 clear cc ll HP1 HQ1 HB1 hb2
 have cc := HP2.out.cell
 have ll := HP2.out.lt
 have dd := HQ2.out.cell
 have dl := HQ2.out.lt
 have HS2 := Lib.hid hs2
 clear hs2 HP
 go_wp2_with fail
 go_ret
 exact ⟨rfl, HB2.out⟩
set_option maxHeartbeats 25600000 in
theorem pm_ent (x : Aq) (y : PoM) (w : World) (hI : AqIn x w) (hy : PoMOk w w.heap.size y) (h0 : (exprP y.p).2 = 0) (h1 : ¬ 5 ≤ y.p.who.op) (h2 : ¬ 5 ≤ y.p.what.op) (h : entErr x.es ≠ 0) :
   Calls Tryz.prog 4 #[.slice x.Ea x.hs.length x.ec, .agg #[.string y.p.name, .bool y.p.forbid, .int .i64 y.p.who.op, .string y.p.who.ty, .string y.p.who.uid.ty, .string y.p.who.uid.id, .int .i64 y.p.act.op, .string y.p.act.ty, .string y.p.act.uid.ty, .string y.p.act.uid.id, .int .i64 y.p.what.op, .string y.p.what.ty, .string y.p.what.uid.ty, .string y.p.what.uid.id, .slice y.A y.cs.length y.c], .agg #[.string x.q.who.ty, .string x.q.who.id, .string x.q.act.ty, .string x.q.act.id, .string x.q.what.ty, .string x.q.what.id, .slice x.qa x.q.ctx.length x.qc]] w fun r w' => r = .returned (.bool true) ∧ RowKit.Below w.heap.size w w' := by
 have hb0 : RowKit.Below w.heap.size w ((w.alloc (.cells #[.string y.p.name, .bool y.p.forbid, .int .i64 y.p.who.op, .string y.p.who.ty, .string y.p.who.uid.ty, .string y.p.who.uid.id, .int .i64 y.p.act.op, .string y.p.act.ty, .string y.p.act.uid.ty, .string y.p.act.uid.id, .int .i64 y.p.what.op, .string y.p.what.ty, .string y.p.what.uid.ty, .string y.p.what.uid.id, .slice y.A y.cs.length y.c] 47)).alloc (.cells #[.string x.q.who.ty, .string x.q.who.id, .string x.q.act.ty, .string x.q.act.id, .string x.q.what.ty, .string x.q.what.id, .slice x.qa x.q.ctx.length x.qc] 39)) := by (repeat (first | assumption | exact Below.refl _ _ | apply Below.drew | apply below_drewN | (refine Below.alloc ?_ (by first | exact Nat.le_refl _ | omega | (simp; done) | (simp; omega)) _)))
 have q0 : Blk ((w.alloc (.cells #[.string y.p.name, .bool y.p.forbid, .int .i64 y.p.who.op, .string y.p.who.ty, .string y.p.who.uid.ty, .string y.p.who.uid.id, .int .i64 y.p.act.op, .string y.p.act.ty, .string y.p.act.uid.ty, .string y.p.act.uid.id, .int .i64 y.p.what.op, .string y.p.what.ty, .string y.p.what.uid.ty, .string y.p.what.uid.id, .slice y.A y.cs.length y.c] 47)).alloc (.cells #[.string x.q.who.ty, .string x.q.who.id, .string x.q.act.ty, .string x.q.act.id, .string x.q.what.ty, .string x.q.what.id, .slice x.qa x.q.ctx.length x.qc] 39)) (w.heap.size + 1) 39 #[.string x.q.who.ty, .string x.q.who.id, .string x.q.act.ty, .string x.q.act.id, .string x.q.what.ty, .string x.q.what.id, .slice x.qa x.q.ctx.length x.qc] := by
   have := Blk.new (w.alloc (.cells #[.string y.p.name, .bool y.p.forbid, .int .i64 y.p.who.op, .string y.p.who.ty, .string y.p.who.uid.ty, .string y.p.who.uid.id, .int .i64 y.p.act.op, .string y.p.act.ty, .string y.p.act.uid.ty, .string y.p.act.uid.id, .int .i64 y.p.what.op, .string y.p.what.ty, .string y.p.what.uid.ty, .string y.p.what.uid.id, .slice y.A y.cs.length y.c] 47)) 39 #[.string x.q.who.ty, .string x.q.who.id, .string x.q.act.ty, .string x.q.act.id, .string x.q.what.ty, .string x.q.what.id, .slice x.qa x.q.ctx.length x.qc]
   rwa [World.size_alloc] at this
 have p0 : Blk ((w.alloc (.cells #[.string y.p.name, .bool y.p.forbid, .int .i64 y.p.who.op, .string y.p.who.ty, .string y.p.who.uid.ty, .string y.p.who.uid.id, .int .i64 y.p.act.op, .string y.p.act.ty, .string y.p.act.uid.ty, .string y.p.act.uid.id, .int .i64 y.p.what.op, .string y.p.what.ty, .string y.p.what.uid.ty, .string y.p.what.uid.id, .slice y.A y.cs.length y.c] 47)).alloc (.cells #[.string x.q.who.ty, .string x.q.who.id, .string x.q.act.ty, .string x.q.act.id, .string x.q.what.ty, .string x.q.what.id, .slice x.qa x.q.ctx.length x.qc] 39)) w.heap.size 47 #[.string y.p.name, .bool y.p.forbid, .int .i64 y.p.who.op, .string y.p.who.ty, .string y.p.who.uid.ty, .string y.p.who.uid.id, .int .i64 y.p.act.op, .string y.p.act.ty, .string y.p.act.uid.ty, .string y.p.act.uid.id, .int .i64 y.p.what.op, .string y.p.what.ty, .string y.p.what.uid.ty, .string y.p.what.uid.id, .slice y.A y.cs.length y.c] := (Blk.new w 47 #[.string y.p.name, .bool y.p.forbid, .int .i64 y.p.who.op, .string y.p.who.ty, .string y.p.who.uid.ty, .string y.p.who.uid.id, .int .i64 y.p.act.op, .string y.p.act.ty, .string y.p.act.uid.ty, .string y.p.act.uid.id, .int .i64 y.p.what.op, .string y.p.what.ty, .string y.p.what.uid.ty, .string y.p.what.uid.id, .slice y.A y.cs.length y.c]).alloc (.cells #[.string x.q.who.ty, .string x.q.who.id, .string x.q.act.ty, .string x.q.act.id, .string x.q.what.ty, .string x.q.what.id, .slice x.qa x.q.ctx.length x.qc] 39)
 have HP := Lib.hid (fun W (hW : RowKit.Below w.heap.size w W) => pol_Expr_any y.p y.cs y.A y.c W hy.same hy.z (hy.later hW).at_ (Nat.le_trans hy.le hy.max))
 have HE := Lib.hid (fun W (hb : RowKit.Below w.heap.size w W) => ent_Check x.hs x.es x.Ea x.ec W (hI.later hb).ents hI.ec)
 rw [h0] at HP
 have t1 : decide (5 ≤ y.p.who.op) = false := by simpa using h1
 have t2 : decide (5 ≤ y.p.what.op) = false := by simpa using h2
 have t3 : (entErr x.es != 0) = true := by simpa using h
 clear hI hy h h0 h1 h2
 generalize (exprP y.p).1 = L at HP
 generalize entErr x.es = k at HE t3
 have HB0 := Lib.hid hb0
 have HP0 := Lib.hid p0
 have HQ0 := Lib.hid q0
 clear hb0 p0 q0
 go_enter Tryz.func4, Tryz.ntmps4
 go_wp2_with fail
 refine (pol_expr_a _).mono ?_
 rintro r w1 ⟨⟨A1, c1, rfl⟩, hb1⟩
 have HB1 := Lib.hid (HB0.out.trans (hb1.mono HB0.out.size))
 have HP1 := Lib.hid (HP0.out.below hb1 HP0.out.lt)
 have HQ1 := Lib.hid (HQ0.out.below hb1 HQ0.out.lt)
 have cc := HP1.out.cell
 have ll := HP1.out.lt
 clear hb1 HB0 HP0 HQ0
 go_wp2_with fail
 refine (HP.out _ HB1.out).mono ?_
 rintro r w2 ⟨A2, c2, rfl, hl2, hm2, hs2, hb2⟩
 have HB2 := Lib.hid (HB1.out.trans (hb2.mono HB1.out.size))
 have HP2 := Lib.hid (HP1.out.below hb2 ll)
 have HQ2 := Lib.hid (HQ1.out.below hb2 HQ1.out.lt)
 clear cc ll HP1 HQ1 HB1 hb2
 have cc := HP2.out.cell
 have ll := HP2.out.lt
 have dd := HQ2.out.cell
 have dl := HQ2.out.lt
 have HS2 := Lib.hid hs2
 clear hs2 HP
 go_wp2_with fail
 refine (HE.out _ HB2.out).mono ?_
 rintro r w3 ⟨rfl, hb3⟩
 have H3 := Lib.hid (HB2.out.trans (hb3.mono HB2.out.size))
 clear hb3
 go_wp2_with fail
 go_ret
 exact ⟨rfl, H3.out⟩
set_option maxHeartbeats 25600000 in
theorem pm_ask (x : Aq) (y : PoM) (w : World) (hI : AqIn x w) (hy : PoMOk w w.heap.size y) (h0 : (exprP y.p).2 = 0) (h1 : ¬ 5 ≤ y.p.who.op) (h2 : ¬ 5 ≤ y.p.what.op) (h3 : entErr x.es = 0) (h : rqErr x.q ≠ 0) :
   Calls Tryz.prog 4 #[.slice x.Ea x.hs.length x.ec, .agg #[.string y.p.name, .bool y.p.forbid, .int .i64 y.p.who.op, .string y.p.who.ty, .string y.p.who.uid.ty, .string y.p.who.uid.id, .int .i64 y.p.act.op, .string y.p.act.ty, .string y.p.act.uid.ty, .string y.p.act.uid.id, .int .i64 y.p.what.op, .string y.p.what.ty, .string y.p.what.uid.ty, .string y.p.what.uid.id, .slice y.A y.cs.length y.c], .agg #[.string x.q.who.ty, .string x.q.who.id, .string x.q.act.ty, .string x.q.act.id, .string x.q.what.ty, .string x.q.what.id, .slice x.qa x.q.ctx.length x.qc]] w fun r w' => r = .returned (.bool true) ∧ RowKit.Below w.heap.size w w' := by
 have hb0 : RowKit.Below w.heap.size w ((w.alloc (.cells #[.string y.p.name, .bool y.p.forbid, .int .i64 y.p.who.op, .string y.p.who.ty, .string y.p.who.uid.ty, .string y.p.who.uid.id, .int .i64 y.p.act.op, .string y.p.act.ty, .string y.p.act.uid.ty, .string y.p.act.uid.id, .int .i64 y.p.what.op, .string y.p.what.ty, .string y.p.what.uid.ty, .string y.p.what.uid.id, .slice y.A y.cs.length y.c] 47)).alloc (.cells #[.string x.q.who.ty, .string x.q.who.id, .string x.q.act.ty, .string x.q.act.id, .string x.q.what.ty, .string x.q.what.id, .slice x.qa x.q.ctx.length x.qc] 39)) := by (repeat (first | assumption | exact Below.refl _ _ | apply Below.drew | apply below_drewN | (refine Below.alloc ?_ (by first | exact Nat.le_refl _ | omega | (simp; done) | (simp; omega)) _)))
 have q0 : Blk ((w.alloc (.cells #[.string y.p.name, .bool y.p.forbid, .int .i64 y.p.who.op, .string y.p.who.ty, .string y.p.who.uid.ty, .string y.p.who.uid.id, .int .i64 y.p.act.op, .string y.p.act.ty, .string y.p.act.uid.ty, .string y.p.act.uid.id, .int .i64 y.p.what.op, .string y.p.what.ty, .string y.p.what.uid.ty, .string y.p.what.uid.id, .slice y.A y.cs.length y.c] 47)).alloc (.cells #[.string x.q.who.ty, .string x.q.who.id, .string x.q.act.ty, .string x.q.act.id, .string x.q.what.ty, .string x.q.what.id, .slice x.qa x.q.ctx.length x.qc] 39)) (w.heap.size + 1) 39 #[.string x.q.who.ty, .string x.q.who.id, .string x.q.act.ty, .string x.q.act.id, .string x.q.what.ty, .string x.q.what.id, .slice x.qa x.q.ctx.length x.qc] := by
   have := Blk.new (w.alloc (.cells #[.string y.p.name, .bool y.p.forbid, .int .i64 y.p.who.op, .string y.p.who.ty, .string y.p.who.uid.ty, .string y.p.who.uid.id, .int .i64 y.p.act.op, .string y.p.act.ty, .string y.p.act.uid.ty, .string y.p.act.uid.id, .int .i64 y.p.what.op, .string y.p.what.ty, .string y.p.what.uid.ty, .string y.p.what.uid.id, .slice y.A y.cs.length y.c] 47)) 39 #[.string x.q.who.ty, .string x.q.who.id, .string x.q.act.ty, .string x.q.act.id, .string x.q.what.ty, .string x.q.what.id, .slice x.qa x.q.ctx.length x.qc]
   rwa [World.size_alloc] at this
 have p0 : Blk ((w.alloc (.cells #[.string y.p.name, .bool y.p.forbid, .int .i64 y.p.who.op, .string y.p.who.ty, .string y.p.who.uid.ty, .string y.p.who.uid.id, .int .i64 y.p.act.op, .string y.p.act.ty, .string y.p.act.uid.ty, .string y.p.act.uid.id, .int .i64 y.p.what.op, .string y.p.what.ty, .string y.p.what.uid.ty, .string y.p.what.uid.id, .slice y.A y.cs.length y.c] 47)).alloc (.cells #[.string x.q.who.ty, .string x.q.who.id, .string x.q.act.ty, .string x.q.act.id, .string x.q.what.ty, .string x.q.what.id, .slice x.qa x.q.ctx.length x.qc] 39)) w.heap.size 47 #[.string y.p.name, .bool y.p.forbid, .int .i64 y.p.who.op, .string y.p.who.ty, .string y.p.who.uid.ty, .string y.p.who.uid.id, .int .i64 y.p.act.op, .string y.p.act.ty, .string y.p.act.uid.ty, .string y.p.act.uid.id, .int .i64 y.p.what.op, .string y.p.what.ty, .string y.p.what.uid.ty, .string y.p.what.uid.id, .slice y.A y.cs.length y.c] := (Blk.new w 47 #[.string y.p.name, .bool y.p.forbid, .int .i64 y.p.who.op, .string y.p.who.ty, .string y.p.who.uid.ty, .string y.p.who.uid.id, .int .i64 y.p.act.op, .string y.p.act.ty, .string y.p.act.uid.ty, .string y.p.act.uid.id, .int .i64 y.p.what.op, .string y.p.what.ty, .string y.p.what.uid.ty, .string y.p.what.uid.id, .slice y.A y.cs.length y.c]).alloc (.cells #[.string x.q.who.ty, .string x.q.who.id, .string x.q.act.ty, .string x.q.act.id, .string x.q.what.ty, .string x.q.what.id, .slice x.qa x.q.ctx.length x.qc] 39)
 have HP := Lib.hid (fun W (hW : RowKit.Below w.heap.size w W) => pol_Expr_any y.p y.cs y.A y.c W hy.same hy.z (hy.later hW).at_ (Nat.le_trans hy.le hy.max))
 have HE := Lib.hid (fun W (hb : RowKit.Below w.heap.size w W) => ent_Check x.hs x.es x.Ea x.ec W (hI.later hb).ents hI.ec)
 have HA := Lib.hid (fun W (hb : RowKit.Below w.heap.size w W) => eval_Ask x.q x.qa x.qc W hI.qz.1 hI.qz.2.1 hI.qz.2.2 hI.qc.1 hI.qc.2 hI.qk (hI.later hb).ctx)
 rw [h0] at HP
 rw [h3] at HE
 have t1 : decide (5 ≤ y.p.who.op) = false := by simpa using h1
 have t2 : decide (5 ≤ y.p.what.op) = false := by simpa using h2
 have t3 : (rqErr x.q != 0) = true := by simpa using h
 clear hI hy h h0 h1 h2 h3
 generalize (exprP y.p).1 = L at HP
 generalize rqErr x.q = k at HA t3
 have HB0 := Lib.hid hb0
 have HP0 := Lib.hid p0
 have HQ0 := Lib.hid q0
 clear hb0 p0 q0
 go_enter Tryz.func4, Tryz.ntmps4
 go_wp2_with fail
 refine (pol_expr_a _).mono ?_
 rintro r w1 ⟨⟨A1, c1, rfl⟩, hb1⟩
 have HB1 := Lib.hid (HB0.out.trans (hb1.mono HB0.out.size))
 have HP1 := Lib.hid (HP0.out.below hb1 HP0.out.lt)
 have HQ1 := Lib.hid (HQ0.out.below hb1 HQ0.out.lt)
 have cc := HP1.out.cell
 have ll := HP1.out.lt
 clear hb1 HB0 HP0 HQ0
 go_wp2_with fail
 refine (HP.out _ HB1.out).mono ?_
 rintro r w2 ⟨A2, c2, rfl, hl2, hm2, hs2, hb2⟩
 have HB2 := Lib.hid (HB1.out.trans (hb2.mono HB1.out.size))
 have HP2 := Lib.hid (HP1.out.below hb2 ll)
 have HQ2 := Lib.hid (HQ1.out.below hb2 HQ1.out.lt)
 clear cc ll HP1 HQ1 HB1 hb2
 have cc := HP2.out.cell
 have ll := HP2.out.lt
 have dd := HQ2.out.cell
 have dl := HQ2.out.lt
 have HS2 := Lib.hid hs2
 clear hs2 HP
 go_wp2_with fail
 refine (HE.out _ HB2.out).mono ?_
 rintro r w3 ⟨rfl, hb3⟩
 have HB3 := Lib.hid (HB2.out.trans (hb3.mono HB2.out.size))
 have HP3 := Lib.hid (HP2.out.below hb3 ll)
 have HQ3 := Lib.hid (HQ2.out.below hb3 dl)
 have HS3 := Lib.hid ((HS2.out.below hb3).more hb3.size)
 clear cc ll dd dl HP2 HQ2 HB2 HS2 hb3
 have cc := HP3.out.cell
 have ll := HP3.out.lt
 have dd := HQ3.out.cell
 have dl := HQ3.out.lt
 go_wp2_with fail
 refine (HA.out _ HB3.out).mono ?_
 rintro r w4 ⟨rfl, hb4⟩
 have H4 := Lib.hid (HB3.out.trans (hb4.mono HB3.out.size))
 clear hb4
 go_wp2_with fail
 go_ret
 exact ⟨rfl, H4.out⟩
set_option maxHeartbeats 25600000 in
theorem pm_fit1 (x : Aq) (y : PoM) (w : World) (hI : AqIn x w) (hy : PoMOk w w.heap.size y) (h0 : (exprP y.p).2 = 0) (h1 : ¬ 5 ≤ y.p.who.op) (h2 : ¬ 5 ≤ y.p.what.op) (h3 : entErr x.es = 0) (h4 : rqErr x.q = 0) (g1 : fitsB x.es y.p.who x.q.who = false) :
   Calls Tryz.prog 4 #[.slice x.Ea x.hs.length x.ec, .agg #[.string y.p.name, .bool y.p.forbid, .int .i64 y.p.who.op, .string y.p.who.ty, .string y.p.who.uid.ty, .string y.p.who.uid.id, .int .i64 y.p.act.op, .string y.p.act.ty, .string y.p.act.uid.ty, .string y.p.act.uid.id, .int .i64 y.p.what.op, .string y.p.what.ty, .string y.p.what.uid.ty, .string y.p.what.uid.id, .slice y.A y.cs.length y.c], .agg #[.string x.q.who.ty, .string x.q.who.id, .string x.q.act.ty, .string x.q.act.id, .string x.q.what.ty, .string x.q.what.id, .slice x.qa x.q.ctx.length x.qc]] w fun r w' => r = .returned (.bool true) ∧ RowKit.Below w.heap.size w w' := by
 have hb0 : RowKit.Below w.heap.size w ((w.alloc (.cells #[.string y.p.name, .bool y.p.forbid, .int .i64 y.p.who.op, .string y.p.who.ty, .string y.p.who.uid.ty, .string y.p.who.uid.id, .int .i64 y.p.act.op, .string y.p.act.ty, .string y.p.act.uid.ty, .string y.p.act.uid.id, .int .i64 y.p.what.op, .string y.p.what.ty, .string y.p.what.uid.ty, .string y.p.what.uid.id, .slice y.A y.cs.length y.c] 47)).alloc (.cells #[.string x.q.who.ty, .string x.q.who.id, .string x.q.act.ty, .string x.q.act.id, .string x.q.what.ty, .string x.q.what.id, .slice x.qa x.q.ctx.length x.qc] 39)) := by (repeat (first | assumption | exact Below.refl _ _ | apply Below.drew | apply below_drewN | (refine Below.alloc ?_ (by first | exact Nat.le_refl _ | omega | (simp; done) | (simp; omega)) _)))
 have q0 : Blk ((w.alloc (.cells #[.string y.p.name, .bool y.p.forbid, .int .i64 y.p.who.op, .string y.p.who.ty, .string y.p.who.uid.ty, .string y.p.who.uid.id, .int .i64 y.p.act.op, .string y.p.act.ty, .string y.p.act.uid.ty, .string y.p.act.uid.id, .int .i64 y.p.what.op, .string y.p.what.ty, .string y.p.what.uid.ty, .string y.p.what.uid.id, .slice y.A y.cs.length y.c] 47)).alloc (.cells #[.string x.q.who.ty, .string x.q.who.id, .string x.q.act.ty, .string x.q.act.id, .string x.q.what.ty, .string x.q.what.id, .slice x.qa x.q.ctx.length x.qc] 39)) (w.heap.size + 1) 39 #[.string x.q.who.ty, .string x.q.who.id, .string x.q.act.ty, .string x.q.act.id, .string x.q.what.ty, .string x.q.what.id, .slice x.qa x.q.ctx.length x.qc] := by
   have := Blk.new (w.alloc (.cells #[.string y.p.name, .bool y.p.forbid, .int .i64 y.p.who.op, .string y.p.who.ty, .string y.p.who.uid.ty, .string y.p.who.uid.id, .int .i64 y.p.act.op, .string y.p.act.ty, .string y.p.act.uid.ty, .string y.p.act.uid.id, .int .i64 y.p.what.op, .string y.p.what.ty, .string y.p.what.uid.ty, .string y.p.what.uid.id, .slice y.A y.cs.length y.c] 47)) 39 #[.string x.q.who.ty, .string x.q.who.id, .string x.q.act.ty, .string x.q.act.id, .string x.q.what.ty, .string x.q.what.id, .slice x.qa x.q.ctx.length x.qc]
   rwa [World.size_alloc] at this
 have p0 : Blk ((w.alloc (.cells #[.string y.p.name, .bool y.p.forbid, .int .i64 y.p.who.op, .string y.p.who.ty, .string y.p.who.uid.ty, .string y.p.who.uid.id, .int .i64 y.p.act.op, .string y.p.act.ty, .string y.p.act.uid.ty, .string y.p.act.uid.id, .int .i64 y.p.what.op, .string y.p.what.ty, .string y.p.what.uid.ty, .string y.p.what.uid.id, .slice y.A y.cs.length y.c] 47)).alloc (.cells #[.string x.q.who.ty, .string x.q.who.id, .string x.q.act.ty, .string x.q.act.id, .string x.q.what.ty, .string x.q.what.id, .slice x.qa x.q.ctx.length x.qc] 39)) w.heap.size 47 #[.string y.p.name, .bool y.p.forbid, .int .i64 y.p.who.op, .string y.p.who.ty, .string y.p.who.uid.ty, .string y.p.who.uid.id, .int .i64 y.p.act.op, .string y.p.act.ty, .string y.p.act.uid.ty, .string y.p.act.uid.id, .int .i64 y.p.what.op, .string y.p.what.ty, .string y.p.what.uid.ty, .string y.p.what.uid.id, .slice y.A y.cs.length y.c] := (Blk.new w 47 #[.string y.p.name, .bool y.p.forbid, .int .i64 y.p.who.op, .string y.p.who.ty, .string y.p.who.uid.ty, .string y.p.who.uid.id, .int .i64 y.p.act.op, .string y.p.act.ty, .string y.p.act.uid.ty, .string y.p.act.uid.id, .int .i64 y.p.what.op, .string y.p.what.ty, .string y.p.what.uid.ty, .string y.p.what.uid.id, .slice y.A y.cs.length y.c]).alloc (.cells #[.string x.q.who.ty, .string x.q.who.id, .string x.q.act.ty, .string x.q.act.id, .string x.q.what.ty, .string x.q.what.id, .slice x.qa x.q.ctx.length x.qc] 39)
 have HP := Lib.hid (fun W (hW : RowKit.Below w.heap.size w W) => pol_Expr_any y.p y.cs y.A y.c W hy.same hy.z (hy.later hW).at_ (Nat.le_trans hy.le hy.max))
 obtain ⟨hpk, hL, ht⟩ := exprP_tree h0
 have hni : NdI (exprP y.p).1 := exprP_i64 h0 (fun c hc => by rw [hy.same] at hc; obtain ⟨z, hz, rfl⟩ := List.mem_map.1 hc; exact hy.ni z hz)
 have hval : valueR x.es x.q (exprP y.p).1 = (if scopesB x.es x.q y.p = true then condsR x.es x.q y.p.conds else .ok false).bind fun b => .ok [bN b] := by
   rw [valueR_ev h3 h4 ht, hL]
   exact pol_means x.es x.q h4 hpk (sc_ge h1) (sc_ge h2)
 have HE := Lib.hid (fun W (hb : RowKit.Below w.heap.size w W) => ent_Check x.hs x.es x.Ea x.ec W (hI.later hb).ents hI.ec)
 have HA := Lib.hid (fun W (hb : RowKit.Below w.heap.size w W) => eval_Ask x.q x.qa x.qc W hI.qz.1 hI.qz.2.1 hI.qz.2.2 hI.qc.1 hI.qc.2 hI.qk (hI.later hb).ctx)
 have HF1 := Lib.hid (fun W (hb : RowKit.Below w.heap.size w W) => law_fits x.hs x.es x.Ea x.ec y.p.who x.q.who W (hI.later hb).ents hI.ec h3 hI.qz.1 hy.z.2.1.2)
 have HF2 := Lib.hid (fun W (hb : RowKit.Below w.heap.size w W) => law_fits x.hs x.es x.Ea x.ec y.p.act x.q.act W (hI.later hb).ents hI.ec h3 hI.qz.2.1 hy.z.2.2.1.2)
 have HF3 := Lib.hid (fun W (hb : RowKit.Below w.heap.size w W) => law_fits x.hs x.es x.Ea x.ec y.p.what x.q.what W (hI.later hb).ents hI.ec h3 hI.qz.2.2 hy.z.2.2.2.2)
 rw [h0] at HP
 rw [h3] at HE
 rw [h4] at HA
 have t1 : decide (5 ≤ y.p.who.op) = false := by simpa using h1
 have t2 : decide (5 ≤ y.p.what.op) = false := by simpa using h2
 obtain ⟨V, hV⟩ : ∃ V, valueR x.es x.q (exprP y.p).1 = V := ⟨_, rfl⟩
 have HV : Hid (∀ W, RowKit.Below w.heap.size w W → ∀ A' c', NdSl W W.heap.size A' (exprP y.p).1 → (exprP y.p).1.length ≤ c' → c' ≤ 9223372036854775807 → Calls Tryz.prog 19 #[.slice x.Ea x.hs.length x.ec, .agg #[.string x.q.who.ty, .string x.q.who.id, .string x.q.act.ty, .string x.q.act.id, .string x.q.what.ty, .string x.q.what.id, .slice x.qa x.q.ctx.length x.qc], .slice A' (exprP y.p).1.length c'] W fun r w' => NdsNewE W r w' (rsL V) (rsE V)) := by
   intro W hW A' c' a1 a2 a3
   have := eval_Value (x.ev (exprP y.p).1 A' c') W ((hI.later hW).va a1 a2 a3 (tree_ok ht) hni)
   have e : valueR (x.ev (exprP y.p).1 A' c').es (x.ev (exprP y.p).1 A' c').q (x.ev (exprP y.p).1 A' c').e = V := hV
   rw [e] at this
   exact this
 have hVe : V = .ok [bN false] := by
   rw [← hV, hval, if_neg (by unfold scopesB; simp [g1])]
   rfl
 subst hVe
 rw [g1] at HF1
 have HU := Lib.hid r3_Truth
 have HSN := Lib.hid (fun B W A1 A2 c1 c2 (h1 : NdSl W W.heap.size A1 [bN B]) (h2 : NdSl W W.heap.size A2 [trN B]) => same_Nodes [bN B] A1 A2 c1 c2 W h1 h2 (by simp))
 have HV : Hid (∀ W, RowKit.Below w.heap.size w W → ∀ A' c', NdSl W W.heap.size A' (exprP y.p).1 → (exprP y.p).1.length ≤ c' → c' ≤ 9223372036854775807 → Calls Tryz.prog 19 #[.slice x.Ea x.hs.length x.ec, .agg #[.string x.q.who.ty, .string x.q.who.id, .string x.q.act.ty, .string x.q.act.id, .string x.q.what.ty, .string x.q.what.id, .slice x.qa x.q.ctx.length x.qc], .slice A' (exprP y.p).1.length c'] W fun r w' => NdsNewE W r w' [bN false] 0) := HV
 clear hI hy h0 h1 h2 h3 h4 hpk hL ht hni hval hV g1
 generalize (exprP y.p).1 = L at HP HV
 have HB0 := Lib.hid hb0
 have HP0 := Lib.hid p0
 have HQ0 := Lib.hid q0
 clear hb0 p0 q0
 go_enter Tryz.func4, Tryz.ntmps4
 go_wp2_with fail
 refine (pol_expr_a _).mono ?_
 rintro r w1 ⟨⟨A1, c1, rfl⟩, hb1⟩
 have HB1 := Lib.hid (HB0.out.trans (hb1.mono HB0.out.size))
 have HP1 := Lib.hid (HP0.out.below hb1 HP0.out.lt)
 have HQ1 := Lib.hid (HQ0.out.below hb1 HQ0.out.lt)
 have cc := HP1.out.cell
 have ll := HP1.out.lt
 clear hb1 HB0 HP0 HQ0
 go_wp2_with fail
 refine (HP.out _ HB1.out).mono ?_
 rintro r w2 ⟨A2, c2, rfl, hl2, hm2, hs2, hb2⟩
 have HB2 := Lib.hid (HB1.out.trans (hb2.mono HB1.out.size))
 have HP2 := Lib.hid (HP1.out.below hb2 ll)
 have HQ2 := Lib.hid (HQ1.out.below hb2 HQ1.out.lt)
 clear cc ll HP1 HQ1 HB1 hb2
 have cc := HP2.out.cell
 have ll := HP2.out.lt
 have dd := HQ2.out.cell
 have dl := HQ2.out.lt
 have HS2 := Lib.hid hs2
 clear hs2 HP
 go_wp2_with fail
 refine (HE.out _ HB2.out).mono ?_
 rintro r w3 ⟨rfl, hb3⟩
 have HB3 := Lib.hid (HB2.out.trans (hb3.mono HB2.out.size))
 have HP3 := Lib.hid (HP2.out.below hb3 ll)
 have HQ3 := Lib.hid (HQ2.out.below hb3 dl)
 have HS3 := Lib.hid ((HS2.out.below hb3).more hb3.size)
 clear cc ll dd dl HP2 HQ2 HB2 HS2 hb3
 have cc := HP3.out.cell
 have ll := HP3.out.lt
 have dd := HQ3.out.cell
 have dl := HQ3.out.lt
 go_wp2_with fail
 refine (HA.out _ HB3.out).mono ?_
 rintro r w4 ⟨rfl, hb4⟩
 have HB4 := Lib.hid (HB3.out.trans (hb4.mono HB3.out.size))
 have HP4 := Lib.hid (HP3.out.below hb4 ll)
 have HQ4 := Lib.hid (HQ3.out.below hb4 dl)
 have HS4 := Lib.hid ((HS3.out.below hb4).more hb4.size)
 clear cc ll dd dl HP3 HQ3 HB3 HS3 hb4
 have cc := HP4.out.cell
 have ll := HP4.out.lt
 have dd := HQ4.out.cell
 have dl := HQ4.out.lt
 go_wp2_with fail
 refine (HV.out _ HB4.out _ _ HS4.out hl2 hm2).mono ?_
 rintro r w5 ⟨A5, c5, rfl, hl5, hm5, hs5, hb5, -⟩
 have HB5 := Lib.hid (HB4.out.trans (hb5.mono HB4.out.size))
 have HP5 := Lib.hid (HP4.out.below hb5 ll)
 have HQ5 := Lib.hid (HQ4.out.below hb5 dl)
 have HS5 := Lib.hid hs5
 clear cc ll dd dl HP4 HQ4 HB4 HS4 hb5 hs5
 have cc := HP5.out.cell
 have ll := HP5.out.lt
 have dd := HQ5.out.cell
 have dl := HQ5.out.lt
 go_wp2_with fail
 refine (HF1.out _ HB5.out).mono ?_
 rintro r w6 ⟨rfl, hb6⟩
 have HB6 := Lib.hid (HB5.out.trans (hb6.mono HB5.out.size))
 have HP6 := Lib.hid (HP5.out.below hb6 ll)
 have HQ6 := Lib.hid (HQ5.out.below hb6 dl)
 have HS6 := Lib.hid ((HS5.out.below hb6).more hb6.size)
 clear cc ll dd dl HP5 HQ5 HB5 HS5 hb6
 have cc := HP6.out.cell
 have ll := HP6.out.lt
 have dd := HQ6.out.cell
 have dl := HQ6.out.lt
 go_wp2_with fail
 refine (HU.out false _).mono ?_
 rintro r wu ⟨Au, cu, rfl, gu, hbu⟩
 have HVu := Lib.hid ((HS6.out.below hbu).more hbu.size)
 have HGu := Lib.hid gu.sl
 have HBu := Lib.hid (HB6.out.trans (hbu.mono HB6.out.size))
 clear gu hbu
 go_wp2_with fail
 refine (HSN.out false wu A5 Au c5 cu HVu.out HGu.out).mono ?_
 rintro r wv ⟨rfl, hbv⟩
 have HBv := Lib.hid (HBu.out.trans (hbv.mono HBu.out.size))
 clear hbv
 go_wp2_with fail
 go_ret
 exact ⟨rfl, HBv.out⟩
set_option maxHeartbeats 25600000 in
theorem pm_fit2 (x : Aq) (y : PoM) (w : World) (hI : AqIn x w) (hy : PoMOk w w.heap.size y) (h0 : (exprP y.p).2 = 0) (h1 : ¬ 5 ≤ y.p.who.op) (h2 : ¬ 5 ≤ y.p.what.op) (h3 : entErr x.es = 0) (h4 : rqErr x.q = 0) (g1 : fitsB x.es y.p.who x.q.who = true) (g2 : fitsB x.es y.p.act x.q.act = false) :
   Calls Tryz.prog 4 #[.slice x.Ea x.hs.length x.ec, .agg #[.string y.p.name, .bool y.p.forbid, .int .i64 y.p.who.op, .string y.p.who.ty, .string y.p.who.uid.ty, .string y.p.who.uid.id, .int .i64 y.p.act.op, .string y.p.act.ty, .string y.p.act.uid.ty, .string y.p.act.uid.id, .int .i64 y.p.what.op, .string y.p.what.ty, .string y.p.what.uid.ty, .string y.p.what.uid.id, .slice y.A y.cs.length y.c], .agg #[.string x.q.who.ty, .string x.q.who.id, .string x.q.act.ty, .string x.q.act.id, .string x.q.what.ty, .string x.q.what.id, .slice x.qa x.q.ctx.length x.qc]] w fun r w' => r = .returned (.bool true) ∧ RowKit.Below w.heap.size w w' := by
 have hb0 : RowKit.Below w.heap.size w ((w.alloc (.cells #[.string y.p.name, .bool y.p.forbid, .int .i64 y.p.who.op, .string y.p.who.ty, .string y.p.who.uid.ty, .string y.p.who.uid.id, .int .i64 y.p.act.op, .string y.p.act.ty, .string y.p.act.uid.ty, .string y.p.act.uid.id, .int .i64 y.p.what.op, .string y.p.what.ty, .string y.p.what.uid.ty, .string y.p.what.uid.id, .slice y.A y.cs.length y.c] 47)).alloc (.cells #[.string x.q.who.ty, .string x.q.who.id, .string x.q.act.ty, .string x.q.act.id, .string x.q.what.ty, .string x.q.what.id, .slice x.qa x.q.ctx.length x.qc] 39)) := by (repeat (first | assumption | exact Below.refl _ _ | apply Below.drew | apply below_drewN | (refine Below.alloc ?_ (by first | exact Nat.le_refl _ | omega | (simp; done) | (simp; omega)) _)))
 have q0 : Blk ((w.alloc (.cells #[.string y.p.name, .bool y.p.forbid, .int .i64 y.p.who.op, .string y.p.who.ty, .string y.p.who.uid.ty, .string y.p.who.uid.id, .int .i64 y.p.act.op, .string y.p.act.ty, .string y.p.act.uid.ty, .string y.p.act.uid.id, .int .i64 y.p.what.op, .string y.p.what.ty, .string y.p.what.uid.ty, .string y.p.what.uid.id, .slice y.A y.cs.length y.c] 47)).alloc (.cells #[.string x.q.who.ty, .string x.q.who.id, .string x.q.act.ty, .string x.q.act.id, .string x.q.what.ty, .string x.q.what.id, .slice x.qa x.q.ctx.length x.qc] 39)) (w.heap.size + 1) 39 #[.string x.q.who.ty, .string x.q.who.id, .string x.q.act.ty, .string x.q.act.id, .string x.q.what.ty, .string x.q.what.id, .slice x.qa x.q.ctx.length x.qc] := by
   have := Blk.new (w.alloc (.cells #[.string y.p.name, .bool y.p.forbid, .int .i64 y.p.who.op, .string y.p.who.ty, .string y.p.who.uid.ty, .string y.p.who.uid.id, .int .i64 y.p.act.op, .string y.p.act.ty, .string y.p.act.uid.ty, .string y.p.act.uid.id, .int .i64 y.p.what.op, .string y.p.what.ty, .string y.p.what.uid.ty, .string y.p.what.uid.id, .slice y.A y.cs.length y.c] 47)) 39 #[.string x.q.who.ty, .string x.q.who.id, .string x.q.act.ty, .string x.q.act.id, .string x.q.what.ty, .string x.q.what.id, .slice x.qa x.q.ctx.length x.qc]
   rwa [World.size_alloc] at this
 have p0 : Blk ((w.alloc (.cells #[.string y.p.name, .bool y.p.forbid, .int .i64 y.p.who.op, .string y.p.who.ty, .string y.p.who.uid.ty, .string y.p.who.uid.id, .int .i64 y.p.act.op, .string y.p.act.ty, .string y.p.act.uid.ty, .string y.p.act.uid.id, .int .i64 y.p.what.op, .string y.p.what.ty, .string y.p.what.uid.ty, .string y.p.what.uid.id, .slice y.A y.cs.length y.c] 47)).alloc (.cells #[.string x.q.who.ty, .string x.q.who.id, .string x.q.act.ty, .string x.q.act.id, .string x.q.what.ty, .string x.q.what.id, .slice x.qa x.q.ctx.length x.qc] 39)) w.heap.size 47 #[.string y.p.name, .bool y.p.forbid, .int .i64 y.p.who.op, .string y.p.who.ty, .string y.p.who.uid.ty, .string y.p.who.uid.id, .int .i64 y.p.act.op, .string y.p.act.ty, .string y.p.act.uid.ty, .string y.p.act.uid.id, .int .i64 y.p.what.op, .string y.p.what.ty, .string y.p.what.uid.ty, .string y.p.what.uid.id, .slice y.A y.cs.length y.c] := (Blk.new w 47 #[.string y.p.name, .bool y.p.forbid, .int .i64 y.p.who.op, .string y.p.who.ty, .string y.p.who.uid.ty, .string y.p.who.uid.id, .int .i64 y.p.act.op, .string y.p.act.ty, .string y.p.act.uid.ty, .string y.p.act.uid.id, .int .i64 y.p.what.op, .string y.p.what.ty, .string y.p.what.uid.ty, .string y.p.what.uid.id, .slice y.A y.cs.length y.c]).alloc (.cells #[.string x.q.who.ty, .string x.q.who.id, .string x.q.act.ty, .string x.q.act.id, .string x.q.what.ty, .string x.q.what.id, .slice x.qa x.q.ctx.length x.qc] 39)
 have HP := Lib.hid (fun W (hW : RowKit.Below w.heap.size w W) => pol_Expr_any y.p y.cs y.A y.c W hy.same hy.z (hy.later hW).at_ (Nat.le_trans hy.le hy.max))
 obtain ⟨hpk, hL, ht⟩ := exprP_tree h0
 have hni : NdI (exprP y.p).1 := exprP_i64 h0 (fun c hc => by rw [hy.same] at hc; obtain ⟨z, hz, rfl⟩ := List.mem_map.1 hc; exact hy.ni z hz)
 have hval : valueR x.es x.q (exprP y.p).1 = (if scopesB x.es x.q y.p = true then condsR x.es x.q y.p.conds else .ok false).bind fun b => .ok [bN b] := by
   rw [valueR_ev h3 h4 ht, hL]
   exact pol_means x.es x.q h4 hpk (sc_ge h1) (sc_ge h2)
 have HE := Lib.hid (fun W (hb : RowKit.Below w.heap.size w W) => ent_Check x.hs x.es x.Ea x.ec W (hI.later hb).ents hI.ec)
 have HA := Lib.hid (fun W (hb : RowKit.Below w.heap.size w W) => eval_Ask x.q x.qa x.qc W hI.qz.1 hI.qz.2.1 hI.qz.2.2 hI.qc.1 hI.qc.2 hI.qk (hI.later hb).ctx)
 have HF1 := Lib.hid (fun W (hb : RowKit.Below w.heap.size w W) => law_fits x.hs x.es x.Ea x.ec y.p.who x.q.who W (hI.later hb).ents hI.ec h3 hI.qz.1 hy.z.2.1.2)
 have HF2 := Lib.hid (fun W (hb : RowKit.Below w.heap.size w W) => law_fits x.hs x.es x.Ea x.ec y.p.act x.q.act W (hI.later hb).ents hI.ec h3 hI.qz.2.1 hy.z.2.2.1.2)
 have HF3 := Lib.hid (fun W (hb : RowKit.Below w.heap.size w W) => law_fits x.hs x.es x.Ea x.ec y.p.what x.q.what W (hI.later hb).ents hI.ec h3 hI.qz.2.2 hy.z.2.2.2.2)
 rw [h0] at HP
 rw [h3] at HE
 rw [h4] at HA
 have t1 : decide (5 ≤ y.p.who.op) = false := by simpa using h1
 have t2 : decide (5 ≤ y.p.what.op) = false := by simpa using h2
 obtain ⟨V, hV⟩ : ∃ V, valueR x.es x.q (exprP y.p).1 = V := ⟨_, rfl⟩
 have HV : Hid (∀ W, RowKit.Below w.heap.size w W → ∀ A' c', NdSl W W.heap.size A' (exprP y.p).1 → (exprP y.p).1.length ≤ c' → c' ≤ 9223372036854775807 → Calls Tryz.prog 19 #[.slice x.Ea x.hs.length x.ec, .agg #[.string x.q.who.ty, .string x.q.who.id, .string x.q.act.ty, .string x.q.act.id, .string x.q.what.ty, .string x.q.what.id, .slice x.qa x.q.ctx.length x.qc], .slice A' (exprP y.p).1.length c'] W fun r w' => NdsNewE W r w' (rsL V) (rsE V)) := by
   intro W hW A' c' a1 a2 a3
   have := eval_Value (x.ev (exprP y.p).1 A' c') W ((hI.later hW).va a1 a2 a3 (tree_ok ht) hni)
   have e : valueR (x.ev (exprP y.p).1 A' c').es (x.ev (exprP y.p).1 A' c').q (x.ev (exprP y.p).1 A' c').e = V := hV
   rw [e] at this
   exact this
 have hVe : V = .ok [bN false] := by
   rw [← hV, hval, if_neg (by unfold scopesB; simp [g1, g2])]
   rfl
 subst hVe
 rw [g1] at HF1
 rw [g2] at HF2
 have HU := Lib.hid r3_Truth
 have HSN := Lib.hid (fun B W A1 A2 c1 c2 (h1 : NdSl W W.heap.size A1 [bN B]) (h2 : NdSl W W.heap.size A2 [trN B]) => same_Nodes [bN B] A1 A2 c1 c2 W h1 h2 (by simp))
 have HV : Hid (∀ W, RowKit.Below w.heap.size w W → ∀ A' c', NdSl W W.heap.size A' (exprP y.p).1 → (exprP y.p).1.length ≤ c' → c' ≤ 9223372036854775807 → Calls Tryz.prog 19 #[.slice x.Ea x.hs.length x.ec, .agg #[.string x.q.who.ty, .string x.q.who.id, .string x.q.act.ty, .string x.q.act.id, .string x.q.what.ty, .string x.q.what.id, .slice x.qa x.q.ctx.length x.qc], .slice A' (exprP y.p).1.length c'] W fun r w' => NdsNewE W r w' [bN false] 0) := HV
 clear hI hy h0 h1 h2 h3 h4 hpk hL ht hni hval hV g1 g2
 generalize (exprP y.p).1 = L at HP HV
 have HB0 := Lib.hid hb0
 have HP0 := Lib.hid p0
 have HQ0 := Lib.hid q0
 clear hb0 p0 q0
 go_enter Tryz.func4, Tryz.ntmps4
 go_wp2_with fail
 refine (pol_expr_a _).mono ?_
 rintro r w1 ⟨⟨A1, c1, rfl⟩, hb1⟩
 have HB1 := Lib.hid (HB0.out.trans (hb1.mono HB0.out.size))
 have HP1 := Lib.hid (HP0.out.below hb1 HP0.out.lt)
 have HQ1 := Lib.hid (HQ0.out.below hb1 HQ0.out.lt)
 have cc := HP1.out.cell
 have ll := HP1.out.lt
 clear hb1 HB0 HP0 HQ0
 go_wp2_with fail
 refine (HP.out _ HB1.out).mono ?_
 rintro r w2 ⟨A2, c2, rfl, hl2, hm2, hs2, hb2⟩
 have HB2 := Lib.hid (HB1.out.trans (hb2.mono HB1.out.size))
 have HP2 := Lib.hid (HP1.out.below hb2 ll)
 have HQ2 := Lib.hid (HQ1.out.below hb2 HQ1.out.lt)
 clear cc ll HP1 HQ1 HB1 hb2
 have cc := HP2.out.cell
 have ll := HP2.out.lt
 have dd := HQ2.out.cell
 have dl := HQ2.out.lt
 have HS2 := Lib.hid hs2
 clear hs2 HP
 go_wp2_with fail
 refine (HE.out _ HB2.out).mono ?_
 rintro r w3 ⟨rfl, hb3⟩
 have HB3 := Lib.hid (HB2.out.trans (hb3.mono HB2.out.size))
 have HP3 := Lib.hid (HP2.out.below hb3 ll)
 have HQ3 := Lib.hid (HQ2.out.below hb3 dl)
 have HS3 := Lib.hid ((HS2.out.below hb3).more hb3.size)
 clear cc ll dd dl HP2 HQ2 HB2 HS2 hb3
 have cc := HP3.out.cell
 have ll := HP3.out.lt
 have dd := HQ3.out.cell
 have dl := HQ3.out.lt
 go_wp2_with fail
 refine (HA.out _ HB3.out).mono ?_
 rintro r w4 ⟨rfl, hb4⟩
 have HB4 := Lib.hid (HB3.out.trans (hb4.mono HB3.out.size))
 have HP4 := Lib.hid (HP3.out.below hb4 ll)
 have HQ4 := Lib.hid (HQ3.out.below hb4 dl)
 have HS4 := Lib.hid ((HS3.out.below hb4).more hb4.size)
 clear cc ll dd dl HP3 HQ3 HB3 HS3 hb4
 have cc := HP4.out.cell
 have ll := HP4.out.lt
 have dd := HQ4.out.cell
 have dl := HQ4.out.lt
 go_wp2_with fail
 refine (HV.out _ HB4.out _ _ HS4.out hl2 hm2).mono ?_
 rintro r w5 ⟨A5, c5, rfl, hl5, hm5, hs5, hb5, -⟩
 have HB5 := Lib.hid (HB4.out.trans (hb5.mono HB4.out.size))
 have HP5 := Lib.hid (HP4.out.below hb5 ll)
 have HQ5 := Lib.hid (HQ4.out.below hb5 dl)
 have HS5 := Lib.hid hs5
 clear cc ll dd dl HP4 HQ4 HB4 HS4 hb5 hs5
 have cc := HP5.out.cell
 have ll := HP5.out.lt
 have dd := HQ5.out.cell
 have dl := HQ5.out.lt
 go_wp2_with fail
 refine (HF1.out _ HB5.out).mono ?_
 rintro r w6 ⟨rfl, hb6⟩
 have HB6 := Lib.hid (HB5.out.trans (hb6.mono HB5.out.size))
 have HP6 := Lib.hid (HP5.out.below hb6 ll)
 have HQ6 := Lib.hid (HQ5.out.below hb6 dl)
 have HS6 := Lib.hid ((HS5.out.below hb6).more hb6.size)
 clear cc ll dd dl HP5 HQ5 HB5 HS5 hb6
 have cc := HP6.out.cell
 have ll := HP6.out.lt
 have dd := HQ6.out.cell
 have dl := HQ6.out.lt
 go_wp2_with fail
 refine (HF2.out _ HB6.out).mono ?_
 rintro r w7 ⟨rfl, hb7⟩
 have HB7 := Lib.hid (HB6.out.trans (hb7.mono HB6.out.size))
 have HP7 := Lib.hid (HP6.out.below hb7 ll)
 have HQ7 := Lib.hid (HQ6.out.below hb7 dl)
 have HS7 := Lib.hid ((HS6.out.below hb7).more hb7.size)
 clear cc ll dd dl HP6 HQ6 HB6 HS6 hb7
 have cc := HP7.out.cell
 have ll := HP7.out.lt
 have dd := HQ7.out.cell
 have dl := HQ7.out.lt
 go_wp2_with fail
 refine (HU.out false _).mono ?_
 rintro r wu ⟨Au, cu, rfl, gu, hbu⟩
 have HVu := Lib.hid ((HS7.out.below hbu).more hbu.size)
 have HGu := Lib.hid gu.sl
 have HBu := Lib.hid (HB7.out.trans (hbu.mono HB7.out.size))
 clear gu hbu
 go_wp2_with fail
 refine (HSN.out false wu A5 Au c5 cu HVu.out HGu.out).mono ?_
 rintro r wv ⟨rfl, hbv⟩
 have HBv := Lib.hid (HBu.out.trans (hbv.mono HBu.out.size))
 clear hbv
 go_wp2_with fail
 go_ret
 exact ⟨rfl, HBv.out⟩
set_option maxHeartbeats 25600000 in
theorem pm_fit3 (x : Aq) (y : PoM) (w : World) (hI : AqIn x w) (hy : PoMOk w w.heap.size y) (h0 : (exprP y.p).2 = 0) (h1 : ¬ 5 ≤ y.p.who.op) (h2 : ¬ 5 ≤ y.p.what.op) (h3 : entErr x.es = 0) (h4 : rqErr x.q = 0) (g1 : fitsB x.es y.p.who x.q.who = true) (g2 : fitsB x.es y.p.act x.q.act = true) (g3 : fitsB x.es y.p.what x.q.what = false) :
   Calls Tryz.prog 4 #[.slice x.Ea x.hs.length x.ec, .agg #[.string y.p.name, .bool y.p.forbid, .int .i64 y.p.who.op, .string y.p.who.ty, .string y.p.who.uid.ty, .string y.p.who.uid.id, .int .i64 y.p.act.op, .string y.p.act.ty, .string y.p.act.uid.ty, .string y.p.act.uid.id, .int .i64 y.p.what.op, .string y.p.what.ty, .string y.p.what.uid.ty, .string y.p.what.uid.id, .slice y.A y.cs.length y.c], .agg #[.string x.q.who.ty, .string x.q.who.id, .string x.q.act.ty, .string x.q.act.id, .string x.q.what.ty, .string x.q.what.id, .slice x.qa x.q.ctx.length x.qc]] w fun r w' => r = .returned (.bool true) ∧ RowKit.Below w.heap.size w w' := by
 have hb0 : RowKit.Below w.heap.size w ((w.alloc (.cells #[.string y.p.name, .bool y.p.forbid, .int .i64 y.p.who.op, .string y.p.who.ty, .string y.p.who.uid.ty, .string y.p.who.uid.id, .int .i64 y.p.act.op, .string y.p.act.ty, .string y.p.act.uid.ty, .string y.p.act.uid.id, .int .i64 y.p.what.op, .string y.p.what.ty, .string y.p.what.uid.ty, .string y.p.what.uid.id, .slice y.A y.cs.length y.c] 47)).alloc (.cells #[.string x.q.who.ty, .string x.q.who.id, .string x.q.act.ty, .string x.q.act.id, .string x.q.what.ty, .string x.q.what.id, .slice x.qa x.q.ctx.length x.qc] 39)) := by (repeat (first | assumption | exact Below.refl _ _ | apply Below.drew | apply below_drewN | (refine Below.alloc ?_ (by first | exact Nat.le_refl _ | omega | (simp; done) | (simp; omega)) _)))
 have q0 : Blk ((w.alloc (.cells #[.string y.p.name, .bool y.p.forbid, .int .i64 y.p.who.op, .string y.p.who.ty, .string y.p.who.uid.ty, .string y.p.who.uid.id, .int .i64 y.p.act.op, .string y.p.act.ty, .string y.p.act.uid.ty, .string y.p.act.uid.id, .int .i64 y.p.what.op, .string y.p.what.ty, .string y.p.what.uid.ty, .string y.p.what.uid.id, .slice y.A y.cs.length y.c] 47)).alloc (.cells #[.string x.q.who.ty, .string x.q.who.id, .string x.q.act.ty, .string x.q.act.id, .string x.q.what.ty, .string x.q.what.id, .slice x.qa x.q.ctx.length x.qc] 39)) (w.heap.size + 1) 39 #[.string x.q.who.ty, .string x.q.who.id, .string x.q.act.ty, .string x.q.act.id, .string x.q.what.ty, .string x.q.what.id, .slice x.qa x.q.ctx.length x.qc] := by
   have := Blk.new (w.alloc (.cells #[.string y.p.name, .bool y.p.forbid, .int .i64 y.p.who.op, .string y.p.who.ty, .string y.p.who.uid.ty, .string y.p.who.uid.id, .int .i64 y.p.act.op, .string y.p.act.ty, .string y.p.act.uid.ty, .string y.p.act.uid.id, .int .i64 y.p.what.op, .string y.p.what.ty, .string y.p.what.uid.ty, .string y.p.what.uid.id, .slice y.A y.cs.length y.c] 47)) 39 #[.string x.q.who.ty, .string x.q.who.id, .string x.q.act.ty, .string x.q.act.id, .string x.q.what.ty, .string x.q.what.id, .slice x.qa x.q.ctx.length x.qc]
   rwa [World.size_alloc] at this
 have p0 : Blk ((w.alloc (.cells #[.string y.p.name, .bool y.p.forbid, .int .i64 y.p.who.op, .string y.p.who.ty, .string y.p.who.uid.ty, .string y.p.who.uid.id, .int .i64 y.p.act.op, .string y.p.act.ty, .string y.p.act.uid.ty, .string y.p.act.uid.id, .int .i64 y.p.what.op, .string y.p.what.ty, .string y.p.what.uid.ty, .string y.p.what.uid.id, .slice y.A y.cs.length y.c] 47)).alloc (.cells #[.string x.q.who.ty, .string x.q.who.id, .string x.q.act.ty, .string x.q.act.id, .string x.q.what.ty, .string x.q.what.id, .slice x.qa x.q.ctx.length x.qc] 39)) w.heap.size 47 #[.string y.p.name, .bool y.p.forbid, .int .i64 y.p.who.op, .string y.p.who.ty, .string y.p.who.uid.ty, .string y.p.who.uid.id, .int .i64 y.p.act.op, .string y.p.act.ty, .string y.p.act.uid.ty, .string y.p.act.uid.id, .int .i64 y.p.what.op, .string y.p.what.ty, .string y.p.what.uid.ty, .string y.p.what.uid.id, .slice y.A y.cs.length y.c] := (Blk.new w 47 #[.string y.p.name, .bool y.p.forbid, .int .i64 y.p.who.op, .string y.p.who.ty, .string y.p.who.uid.ty, .string y.p.who.uid.id, .int .i64 y.p.act.op, .string y.p.act.ty, .string y.p.act.uid.ty, .string y.p.act.uid.id, .int .i64 y.p.what.op, .string y.p.what.ty, .string y.p.what.uid.ty, .string y.p.what.uid.id, .slice y.A y.cs.length y.c]).alloc (.cells #[.string x.q.who.ty, .string x.q.who.id, .string x.q.act.ty, .string x.q.act.id, .string x.q.what.ty, .string x.q.what.id, .slice x.qa x.q.ctx.length x.qc] 39)
 have HP := Lib.hid (fun W (hW : RowKit.Below w.heap.size w W) => pol_Expr_any y.p y.cs y.A y.c W hy.same hy.z (hy.later hW).at_ (Nat.le_trans hy.le hy.max))
 obtain ⟨hpk, hL, ht⟩ := exprP_tree h0
 have hni : NdI (exprP y.p).1 := exprP_i64 h0 (fun c hc => by rw [hy.same] at hc; obtain ⟨z, hz, rfl⟩ := List.mem_map.1 hc; exact hy.ni z hz)
 have hval : valueR x.es x.q (exprP y.p).1 = (if scopesB x.es x.q y.p = true then condsR x.es x.q y.p.conds else .ok false).bind fun b => .ok [bN b] := by
   rw [valueR_ev h3 h4 ht, hL]
   exact pol_means x.es x.q h4 hpk (sc_ge h1) (sc_ge h2)
 have HE := Lib.hid (fun W (hb : RowKit.Below w.heap.size w W) => ent_Check x.hs x.es x.Ea x.ec W (hI.later hb).ents hI.ec)
 have HA := Lib.hid (fun W (hb : RowKit.Below w.heap.size w W) => eval_Ask x.q x.qa x.qc W hI.qz.1 hI.qz.2.1 hI.qz.2.2 hI.qc.1 hI.qc.2 hI.qk (hI.later hb).ctx)
 have HF1 := Lib.hid (fun W (hb : RowKit.Below w.heap.size w W) => law_fits x.hs x.es x.Ea x.ec y.p.who x.q.who W (hI.later hb).ents hI.ec h3 hI.qz.1 hy.z.2.1.2)
 have HF2 := Lib.hid (fun W (hb : RowKit.Below w.heap.size w W) => law_fits x.hs x.es x.Ea x.ec y.p.act x.q.act W (hI.later hb).ents hI.ec h3 hI.qz.2.1 hy.z.2.2.1.2)
 have HF3 := Lib.hid (fun W (hb : RowKit.Below w.heap.size w W) => law_fits x.hs x.es x.Ea x.ec y.p.what x.q.what W (hI.later hb).ents hI.ec h3 hI.qz.2.2 hy.z.2.2.2.2)
 rw [h0] at HP
 rw [h3] at HE
 rw [h4] at HA
 have t1 : decide (5 ≤ y.p.who.op) = false := by simpa using h1
 have t2 : decide (5 ≤ y.p.what.op) = false := by simpa using h2
 obtain ⟨V, hV⟩ : ∃ V, valueR x.es x.q (exprP y.p).1 = V := ⟨_, rfl⟩
 have HV : Hid (∀ W, RowKit.Below w.heap.size w W → ∀ A' c', NdSl W W.heap.size A' (exprP y.p).1 → (exprP y.p).1.length ≤ c' → c' ≤ 9223372036854775807 → Calls Tryz.prog 19 #[.slice x.Ea x.hs.length x.ec, .agg #[.string x.q.who.ty, .string x.q.who.id, .string x.q.act.ty, .string x.q.act.id, .string x.q.what.ty, .string x.q.what.id, .slice x.qa x.q.ctx.length x.qc], .slice A' (exprP y.p).1.length c'] W fun r w' => NdsNewE W r w' (rsL V) (rsE V)) := by
   intro W hW A' c' a1 a2 a3
   have := eval_Value (x.ev (exprP y.p).1 A' c') W ((hI.later hW).va a1 a2 a3 (tree_ok ht) hni)
   have e : valueR (x.ev (exprP y.p).1 A' c').es (x.ev (exprP y.p).1 A' c').q (x.ev (exprP y.p).1 A' c').e = V := hV
   rw [e] at this
   exact this
 have hVe : V = .ok [bN false] := by
   rw [← hV, hval, if_neg (by unfold scopesB; simp [g1, g2, g3])]
   rfl
 subst hVe
 rw [g1] at HF1
 rw [g2] at HF2
 rw [g3] at HF3
 have HU := Lib.hid r3_Truth
 have HSN := Lib.hid (fun B W A1 A2 c1 c2 (h1 : NdSl W W.heap.size A1 [bN B]) (h2 : NdSl W W.heap.size A2 [trN B]) => same_Nodes [bN B] A1 A2 c1 c2 W h1 h2 (by simp))
 have HV : Hid (∀ W, RowKit.Below w.heap.size w W → ∀ A' c', NdSl W W.heap.size A' (exprP y.p).1 → (exprP y.p).1.length ≤ c' → c' ≤ 9223372036854775807 → Calls Tryz.prog 19 #[.slice x.Ea x.hs.length x.ec, .agg #[.string x.q.who.ty, .string x.q.who.id, .string x.q.act.ty, .string x.q.act.id, .string x.q.what.ty, .string x.q.what.id, .slice x.qa x.q.ctx.length x.qc], .slice A' (exprP y.p).1.length c'] W fun r w' => NdsNewE W r w' [bN false] 0) := HV
 clear hI hy h0 h1 h2 h3 h4 hpk hL ht hni hval hV g1 g2 g3
 generalize (exprP y.p).1 = L at HP HV
 have HB0 := Lib.hid hb0
 have HP0 := Lib.hid p0
 have HQ0 := Lib.hid q0
 clear hb0 p0 q0
 go_enter Tryz.func4, Tryz.ntmps4
 go_wp2_with fail
 refine (pol_expr_a _).mono ?_
 rintro r w1 ⟨⟨A1, c1, rfl⟩, hb1⟩
 have HB1 := Lib.hid (HB0.out.trans (hb1.mono HB0.out.size))
 have HP1 := Lib.hid (HP0.out.below hb1 HP0.out.lt)
 have HQ1 := Lib.hid (HQ0.out.below hb1 HQ0.out.lt)
 have cc := HP1.out.cell
 have ll := HP1.out.lt
 clear hb1 HB0 HP0 HQ0
 go_wp2_with fail
 refine (HP.out _ HB1.out).mono ?_
 rintro r w2 ⟨A2, c2, rfl, hl2, hm2, hs2, hb2⟩
 have HB2 := Lib.hid (HB1.out.trans (hb2.mono HB1.out.size))
 have HP2 := Lib.hid (HP1.out.below hb2 ll)
 have HQ2 := Lib.hid (HQ1.out.below hb2 HQ1.out.lt)
 clear cc ll HP1 HQ1 HB1 hb2
 have cc := HP2.out.cell
 have ll := HP2.out.lt
 have dd := HQ2.out.cell
 have dl := HQ2.out.lt
 have HS2 := Lib.hid hs2
 clear hs2 HP
 go_wp2_with fail
 refine (HE.out _ HB2.out).mono ?_
 rintro r w3 ⟨rfl, hb3⟩
 have HB3 := Lib.hid (HB2.out.trans (hb3.mono HB2.out.size))
 have HP3 := Lib.hid (HP2.out.below hb3 ll)
 have HQ3 := Lib.hid (HQ2.out.below hb3 dl)
 have HS3 := Lib.hid ((HS2.out.below hb3).more hb3.size)
 clear cc ll dd dl HP2 HQ2 HB2 HS2 hb3
 have cc := HP3.out.cell
 have ll := HP3.out.lt
 have dd := HQ3.out.cell
 have dl := HQ3.out.lt
 go_wp2_with fail
 refine (HA.out _ HB3.out).mono ?_
 rintro r w4 ⟨rfl, hb4⟩
 have HB4 := Lib.hid (HB3.out.trans (hb4.mono HB3.out.size))
 have HP4 := Lib.hid (HP3.out.below hb4 ll)
 have HQ4 := Lib.hid (HQ3.out.below hb4 dl)
 have HS4 := Lib.hid ((HS3.out.below hb4).more hb4.size)
 clear cc ll dd dl HP3 HQ3 HB3 HS3 hb4
 have cc := HP4.out.cell
 have ll := HP4.out.lt
 have dd := HQ4.out.cell
 have dl := HQ4.out.lt
 go_wp2_with fail
 refine (HV.out _ HB4.out _ _ HS4.out hl2 hm2).mono ?_
 rintro r w5 ⟨A5, c5, rfl, hl5, hm5, hs5, hb5, -⟩
 have HB5 := Lib.hid (HB4.out.trans (hb5.mono HB4.out.size))
 have HP5 := Lib.hid (HP4.out.below hb5 ll)
 have HQ5 := Lib.hid (HQ4.out.below hb5 dl)
 have HS5 := Lib.hid hs5
 clear cc ll dd dl HP4 HQ4 HB4 HS4 hb5 hs5
 have cc := HP5.out.cell
 have ll := HP5.out.lt
 have dd := HQ5.out.cell
 have dl := HQ5.out.lt
 go_wp2_with fail
 refine (HF1.out _ HB5.out).mono ?_
 rintro r w6 ⟨rfl, hb6⟩
 have HB6 := Lib.hid (HB5.out.trans (hb6.mono HB5.out.size))
 have HP6 := Lib.hid (HP5.out.below hb6 ll)
 have HQ6 := Lib.hid (HQ5.out.below hb6 dl)
 have HS6 := Lib.hid ((HS5.out.below hb6).more hb6.size)
 clear cc ll dd dl HP5 HQ5 HB5 HS5 hb6
 have cc := HP6.out.cell
 have ll := HP6.out.lt
 have dd := HQ6.out.cell
 have dl := HQ6.out.lt
 go_wp2_with fail
 refine (HF2.out _ HB6.out).mono ?_
 rintro r w7 ⟨rfl, hb7⟩
 have HB7 := Lib.hid (HB6.out.trans (hb7.mono HB6.out.size))
 have HP7 := Lib.hid (HP6.out.below hb7 ll)
 have HQ7 := Lib.hid (HQ6.out.below hb7 dl)
 have HS7 := Lib.hid ((HS6.out.below hb7).more hb7.size)
 clear cc ll dd dl HP6 HQ6 HB6 HS6 hb7
 have cc := HP7.out.cell
 have ll := HP7.out.lt
 have dd := HQ7.out.cell
 have dl := HQ7.out.lt
 go_wp2_with fail
 refine (HF3.out _ HB7.out).mono ?_
 rintro r w8 ⟨rfl, hb8⟩
 have HB8 := Lib.hid (HB7.out.trans (hb8.mono HB7.out.size))
 have HP8 := Lib.hid (HP7.out.below hb8 ll)
 have HQ8 := Lib.hid (HQ7.out.below hb8 dl)
 have HS8 := Lib.hid ((HS7.out.below hb8).more hb8.size)
 clear cc ll dd dl HP7 HQ7 HB7 HS7 hb8
 have cc := HP8.out.cell
 have ll := HP8.out.lt
 have dd := HQ8.out.cell
 have dl := HQ8.out.lt
 go_wp2_with fail
 refine (HU.out false _).mono ?_
 rintro r wu ⟨Au, cu, rfl, gu, hbu⟩
 have HVu := Lib.hid ((HS8.out.below hbu).more hbu.size)
 have HGu := Lib.hid gu.sl
 have HBu := Lib.hid (HB8.out.trans (hbu.mono HB8.out.size))
 clear gu hbu
 go_wp2_with fail
 refine (HSN.out false wu A5 Au c5 cu HVu.out HGu.out).mono ?_
 rintro r wv ⟨rfl, hbv⟩
 have HBv := Lib.hid (HBu.out.trans (hbv.mono HBu.out.size))
 clear hbv
 go_wp2_with fail
 go_ret
 exact ⟨rfl, HBv.out⟩
end Go.Proofs.YtpheiojmcafolaaGreatDoor
