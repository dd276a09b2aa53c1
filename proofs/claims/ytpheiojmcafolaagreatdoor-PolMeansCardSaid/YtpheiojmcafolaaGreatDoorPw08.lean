/-
  THE WALKS: pol.Scoped.
  THE WALKS: pol.Expr.
  THE WALKS: pol.Expr at any policy.
  THE WALKS: pol.Expr at the policy that has a name alone.
-/
import Derived.Test.YtpheiojmcafolaaGreatDoorPw07
import Derived.Deep.RegionHeld3
namespace Go.Proofs.YtpheiojmcafolaaGreatDoor
open Go.RowKit Go.Sort
theorem nss_lit {W : World} {T : TypeId} {ps : List NsM} {cs : Array Value} (hcs : cs.toList = flatG NsM.cells ps) (h : ∀ p ∈ ps, NsGood W W.heap.size p) : NssAt (W.alloc (.cells cs T)) (some ⟨W.heap.size, 0, none⟩) ps :=
 ⟨by rw [World.size_alloc]; exact new_SlG ns_ok W T ps cs hcs, fun x hx => (h x hx).later ((Below.refl _ _).alloc (Nat.le_refl _) _)⟩
theorem nd_blk {W : World} {b : Nat} {T : TypeId} {x : Nd} (h : Blk W b T #[.int .i64 x.op, .int .i64 x.n, .string x.s, .string x.t]) : NdSl W W.heap.size (some ⟨b, 0, none⟩) [x] := fun _ =>
 ⟨b, 0, rfl, h.lt, fun i y hy => by
   cases i with
   | succ i => simp at hy
   | zero =>
     simp at hy
     subst hy
     exact ⟨h.cell 0, h.cell 1, h.cell 2, h.cell 3⟩⟩
theorem ns_blk {W : World} {b : Nat} {T : TypeId} (x : Nd) (h : Blk W b T #[.int .i64 x.op, .int .i64 x.n, .string x.s, .string x.t]) : NsGood W W.heap.size ⟨some ⟨b, 0, none⟩, 1, [x]⟩ :=
 ⟨nd_blk h, Nat.le_refl _, by show 1 ≤ 9223372036854775807; decide⟩
structure ScI (w : World) (k : Int) (s : Sc) (v : ByteArray) (W : World) : Prop where
 bx : Blk W w.heap.size 44 #[.int .i64 k, .string s.ty, .string s.uid.ty, .string s.uid.id]
 who : Blk W (w.heap.size + 1) 37 #[.int .i64 8, .int .i64 0, .string v, .string ⟨#[]⟩]
 slot : Blk W (w.heap.size + 1 + 1) 37 #[.int .i64 8, .int .i64 0, .string (qB v), .string ⟨#[]⟩]
 uid : Blk W (w.heap.size + 1 + 1 + 1) 37 #[.int .i64 4, .int .i64 0, .string s.uid.ty, .string s.uid.id]
 on : Below w.heap.size w W
theorem ScI.later {w : World} {k : Int} {s : Sc} {v : ByteArray} {W W' : World} (h : ScI w k s v W) (hb : Below W.heap.size W W') : ScI w k s v W' :=
 ⟨h.bx.below hb h.bx.lt, h.who.below hb h.who.lt, h.slot.below hb h.slot.lt, h.uid.below hb h.uid.lt, h.on.trans (hb.mono h.on.size)⟩
theorem ScI.new (w : World) (k : Int) (s : Sc) (v q : ByteArray) (hq : q = qB v) : ScI w k s v ((((w.alloc (.cells #[.int .i64 k, .string s.ty, .string s.uid.ty, .string s.uid.id] 44)).alloc (.cells #[.int .i64 8, .int .i64 0, .string v, .string ⟨#[]⟩] 37)).alloc (.cells #[.int .i64 8, .int .i64 0, .string q, .string ⟨#[]⟩] 37)).alloc (.cells #[.int .i64 4, .int .i64 0, .string s.uid.ty, .string s.uid.id] 37)) := by
 subst hq
 refine ⟨(((Blk.new w _ _).alloc _).alloc _).alloc _, ?_, ?_, ?_, by (repeat (first | assumption | exact Below.refl _ _ | apply Below.drew | apply below_drewN | (refine Below.alloc ?_ (by first | exact Nat.le_refl _ | omega | (simp; done) | (simp; omega)) _)))⟩
 · have := ((Blk.new (w.alloc (.cells #[.int .i64 k, .string s.ty, .string s.uid.ty, .string s.uid.id] 44)) 37 #[.int .i64 8, .int .i64 0, .string v, .string ⟨#[]⟩]).alloc (.cells #[.int .i64 8, .int .i64 0, .string (qB v), .string ⟨#[]⟩] 37)).alloc (.cells #[.int .i64 4, .int .i64 0, .string s.uid.ty, .string s.uid.id] 37)
   rwa [World.size_alloc] at this
 · have := (Blk.new ((w.alloc (.cells #[.int .i64 k, .string s.ty, .string s.uid.ty, .string s.uid.id] 44)).alloc (.cells #[.int .i64 8, .int .i64 0, .string v, .string ⟨#[]⟩] 37)) 37 #[.int .i64 8, .int .i64 0, .string (qB v), .string ⟨#[]⟩]).alloc (.cells #[.int .i64 4, .int .i64 0, .string s.uid.ty, .string s.uid.id] 37)
   rwa [World.size_alloc, World.size_alloc] at this
 · have := Blk.new (((w.alloc (.cells #[.int .i64 k, .string s.ty, .string s.uid.ty, .string s.uid.id] 44)).alloc (.cells #[.int .i64 8, .int .i64 0, .string v, .string ⟨#[]⟩] 37)).alloc (.cells #[.int .i64 8, .int .i64 0, .string (qB v), .string ⟨#[]⟩] 37)) 37 #[.int .i64 4, .int .i64 0, .string s.uid.ty, .string s.uid.id]
   rwa [World.size_alloc, World.size_alloc, World.size_alloc] at this
theorem op_call {W : World} {T : TypeId} (x : Nd) (ps : List NsM) (cs : Array Value) (n c : Nat) (xs : List Nd) (hcs : cs.toList = flatG NsM.cells ps) (hn : n = ps.length) (hxs : xs = x :: catN ps) (h : ∀ p ∈ ps, NsGood W W.heap.size p) (hne : ∀ p ∈ ps, p.e ≠ []) (hl : (catN ps).length ≤ 100000) (hp : ps.length ≤ 100000) :
   Calls Tryz.prog 55 #[.agg #[.int .i64 x.op, .int .i64 x.n, .string x.s, .string x.t], .slice (some ⟨W.heap.size, 0, none⟩) n c] (W.alloc (.cells cs T)) fun r w' => NdsRet W r w' xs := by
 subst hn hxs
 refine (pol_op x ps _ c _ (nss_lit hcs h) hne hl hp).mono ?_
 rintro r w' ⟨A, c', h1, h2, h3, h4, h5⟩
 exact ⟨A, c', h1, h2, h3, h4, ((Below.refl _ _).alloc (Nat.le_refl _) _).trans (h5.mono (by simp))⟩
theorem op1 {w W : World} {k : Int} {s : Sc} {v : ByteArray} {T : TypeId} (h : ScI w k s v W) (x : Nd) :
   Calls Tryz.prog 55 #[.agg #[.int .i64 x.op, .int .i64 x.n, .string x.s, .string x.t], .slice (some ⟨W.heap.size, 0, none⟩) 1 1] (W.alloc (.cells #[.slice (some ⟨w.heap.size + 1, 0, none⟩) 1 1] T)) fun r w' => NdsRet W r w' [x, varN v] :=
 op_call x [⟨some ⟨w.heap.size + 1, 0, none⟩, 1, [varN v]⟩] _ _ _ _ rfl rfl rfl (by simpa using ns_blk (varN v) h.who) (by simp) (by simp [catN]) (by simp)
theorem op_uid {w W : World} {k : Int} {s : Sc} {v : ByteArray} {T : TypeId} (h : ScI w k s v W) (x : Nd) :
   Calls Tryz.prog 55 #[.agg #[.int .i64 x.op, .int .i64 x.n, .string x.s, .string x.t], .slice (some ⟨W.heap.size, 0, none⟩) 2 2] (W.alloc (.cells #[.slice (some ⟨w.heap.size + 1, 0, none⟩) 1 1, .slice (some ⟨w.heap.size + 1 + 1 + 1, 0, none⟩) 1 1] T)) fun r w' => NdsRet W r w' [x, varN v, entN s.uid] :=
 op_call x [⟨some ⟨w.heap.size + 1, 0, none⟩, 1, [varN v]⟩, ⟨some ⟨w.heap.size + 1 + 1 + 1, 0, none⟩, 1, [entN s.uid]⟩] _ _ _ _ rfl rfl rfl (by simpa using ⟨ns_blk (varN v) h.who, ns_blk (entN s.uid) h.uid⟩) (by simp) (by simp [catN]) (by simp)
theorem op_slot {w W : World} {k : Int} {s : Sc} {v : ByteArray} {T : TypeId} (h : ScI w k s v W) (x : Nd) :
   Calls Tryz.prog 55 #[.agg #[.int .i64 x.op, .int .i64 x.n, .string x.s, .string x.t], .slice (some ⟨W.heap.size, 0, none⟩) 2 2] (W.alloc (.cells #[.slice (some ⟨w.heap.size + 1, 0, none⟩) 1 1, .slice (some ⟨w.heap.size + 1 + 1, 0, none⟩) 1 1] T)) fun r w' => NdsRet W r w' [x, varN v, varN (qB v)] :=
 op_call x [⟨some ⟨w.heap.size + 1, 0, none⟩, 1, [varN v]⟩, ⟨some ⟨w.heap.size + 1 + 1, 0, none⟩, 1, [varN (qB v)]⟩] _ _ _ _ rfl rfl rfl (by simpa using ⟨ns_blk (varN v) h.who, ns_blk (varN (qB v)) h.slot⟩) (by simp) (by simp [catN]) (by simp)
set_option maxRecDepth 100000 in
set_option maxHeartbeats 1600000 in
theorem pol_Scoped1 (s : Sc) (v : ByteArray) (w : World) (hs : s.op = 1) (hv : v.size ≤ 1000) :
   Calls Tryz.prog 56 #[.agg #[.int .i64 s.op, .string s.ty, .string s.uid.ty, .string s.uid.id], .string v] w fun r w' => NdsRet w r w' (scopeE s v) := by
 have HE : Hid (scopeE s v = [opN 14, varN v, entN s.uid]) := by show _ = _; unfold scopeE;  rw [if_pos hs]
 rw [hs]
 go_enter Tryz.func56, Tryz.ntmps56
 go_wp2_with fail
 generalize hw4 : (((w.alloc _).alloc _).alloc _).alloc _ = W4
 have hI : ScI w 1 s v W4 := by rw [← hw4]; exact ScI.new w 1 s v _ rfl
 have hz : w.heap.size + 1 + 1 + 1 + 1 = W4.heap.size := by rw [← hw4]; simp
 clear hw4
 rw [hz]
 refine (op1 hI ⟨24, 0, s.ty, eB⟩).mono ?_
 rintro r w1 ⟨A1, c1, rfl, hc1, hm1, hs1, hb1⟩
 have HI2 := Lib.hid (hI.later hb1)
 have c0 := HI2.out.bx.cell
 have l0 := HI2.out.bx.lt
 have HS1 := Lib.hid hs1
 have HC1 := Lib.hid hc1
 clear hI hz hb1 hs1 hc1
 go_wp2_with fail
 refine (op_uid HI2.out (opN 14)).mono ?_
 rintro r w2 ⟨A2, c2, rfl, hc2, hm2, hs2, hb2⟩
 have HS := Lib.hid hs2
 have HC := Lib.hid hc2
 clear hs2 hc2 c0 l0
 go_wp2_with fail
 go_ret
 rw [HE.out]
 exact ⟨A2, c2, rfl, HC.out, hm2, HS.out, HI2.out.on.trans (hb2.mono HI2.out.on.size)⟩
set_option maxRecDepth 100000 in
set_option maxHeartbeats 1600000 in
theorem pol_Scoped2 (s : Sc) (v : ByteArray) (w : World) (hs : s.op = 2) (hv : v.size ≤ 1000) :
   Calls Tryz.prog 56 #[.agg #[.int .i64 s.op, .string s.ty, .string s.uid.ty, .string s.uid.id], .string v] w fun r w' => NdsRet w r w' (scopeE s v) := by
 have HE : Hid (scopeE s v = [opN 20, varN v, entN s.uid]) := by show _ = _; unfold scopeE; rw [if_neg (by omega)]; rw [if_pos hs]
 rw [hs]
 go_enter Tryz.func56, Tryz.ntmps56
 go_wp2_with fail
 generalize hw4 : (((w.alloc _).alloc _).alloc _).alloc _ = W4
 have hI : ScI w 2 s v W4 := by rw [← hw4]; exact ScI.new w 2 s v _ rfl
 have hz : w.heap.size + 1 + 1 + 1 + 1 = W4.heap.size := by rw [← hw4]; simp
 clear hw4
 rw [hz]
 refine (op1 hI ⟨24, 0, s.ty, eB⟩).mono ?_
 rintro r w1 ⟨A1, c1, rfl, hc1, hm1, hs1, hb1⟩
 have HI2 := Lib.hid (hI.later hb1)
 have c0 := HI2.out.bx.cell
 have l0 := HI2.out.bx.lt
 have HS1 := Lib.hid hs1
 have HC1 := Lib.hid hc1
 clear hI hz hb1 hs1 hc1
 go_wp2_with fail
 refine (op_uid HI2.out (opN 20)).mono ?_
 rintro r w2 ⟨A2, c2, rfl, hc2, hm2, hs2, hb2⟩
 have HS := Lib.hid hs2
 have HC := Lib.hid hc2
 clear hs2 hc2 c0 l0
 go_wp2_with fail
 go_ret
 rw [HE.out]
 exact ⟨A2, c2, rfl, HC.out, hm2, HS.out, HI2.out.on.trans (hb2.mono HI2.out.on.size)⟩
set_option maxRecDepth 100000 in
set_option maxHeartbeats 1600000 in
theorem pol_Scoped5 (s : Sc) (v : ByteArray) (w : World) (hs : s.op = 5) (hv : v.size ≤ 1000) :
   Calls Tryz.prog 56 #[.agg #[.int .i64 s.op, .string s.ty, .string s.uid.ty, .string s.uid.id], .string v] w fun r w' => NdsRet w r w' (scopeE s v) := by
 have HE : Hid (scopeE s v = [opN 14, varN v, varN (qB v)]) := by show _ = _; unfold scopeE; rw [if_neg (by omega)]; rw [if_neg (by omega)]; rw [if_neg (by omega)]; rw [if_neg (by omega)]; rw [if_pos hs]
 rw [hs]
 go_enter Tryz.func56, Tryz.ntmps56
 go_wp2_with fail
 generalize hw4 : (((w.alloc _).alloc _).alloc _).alloc _ = W4
 have hI : ScI w 5 s v W4 := by rw [← hw4]; exact ScI.new w 5 s v _ rfl
 have hz : w.heap.size + 1 + 1 + 1 + 1 = W4.heap.size := by rw [← hw4]; simp
 clear hw4
 rw [hz]
 refine (op1 hI ⟨24, 0, s.ty, eB⟩).mono ?_
 rintro r w1 ⟨A1, c1, rfl, hc1, hm1, hs1, hb1⟩
 have HI2 := Lib.hid (hI.later hb1)
 have c0 := HI2.out.bx.cell
 have l0 := HI2.out.bx.lt
 have HS1 := Lib.hid hs1
 have HC1 := Lib.hid hc1
 clear hI hz hb1 hs1 hc1
 go_wp2_with fail
 refine (op_slot HI2.out (opN 14)).mono ?_
 rintro r w2 ⟨A2, c2, rfl, hc2, hm2, hs2, hb2⟩
 have HS := Lib.hid hs2
 have HC := Lib.hid hc2
 clear hs2 hc2 c0 l0
 go_wp2_with fail
 go_ret
 rw [HE.out]
 exact ⟨A2, c2, rfl, HC.out, hm2, HS.out, HI2.out.on.trans (hb2.mono HI2.out.on.size)⟩
set_option maxRecDepth 100000 in
set_option maxHeartbeats 1600000 in
theorem pol_Scoped6 (s : Sc) (v : ByteArray) (w : World) (hs : s.op = 6) (hv : v.size ≤ 1000) :
   Calls Tryz.prog 56 #[.agg #[.int .i64 s.op, .string s.ty, .string s.uid.ty, .string s.uid.id], .string v] w fun r w' => NdsRet w r w' (scopeE s v) := by
 have HE : Hid (scopeE s v = [opN 20, varN v, varN (qB v)]) := by show _ = _; unfold scopeE; rw [if_neg (by omega)]; rw [if_neg (by omega)]; rw [if_neg (by omega)]; rw [if_neg (by omega)]; rw [if_neg (by omega)]; rw [if_pos hs]
 rw [hs]
 go_enter Tryz.func56, Tryz.ntmps56
 go_wp2_with fail
 generalize hw4 : (((w.alloc _).alloc _).alloc _).alloc _ = W4
 have hI : ScI w 6 s v W4 := by rw [← hw4]; exact ScI.new w 6 s v _ rfl
 have hz : w.heap.size + 1 + 1 + 1 + 1 = W4.heap.size := by rw [← hw4]; simp
 clear hw4
 rw [hz]
 refine (op1 hI ⟨24, 0, s.ty, eB⟩).mono ?_
 rintro r w1 ⟨A1, c1, rfl, hc1, hm1, hs1, hb1⟩
 have HI2 := Lib.hid (hI.later hb1)
 have c0 := HI2.out.bx.cell
 have l0 := HI2.out.bx.lt
 have HS1 := Lib.hid hs1
 have HC1 := Lib.hid hc1
 clear hI hz hb1 hs1 hc1
 go_wp2_with fail
 refine (op_slot HI2.out (opN 20)).mono ?_
 rintro r w2 ⟨A2, c2, rfl, hc2, hm2, hs2, hb2⟩
 have HS := Lib.hid hs2
 have HC := Lib.hid hc2
 clear hs2 hc2 c0 l0
 go_wp2_with fail
 go_ret
 rw [HE.out]
 exact ⟨A2, c2, rfl, HC.out, hm2, HS.out, HI2.out.on.trans (hb2.mono HI2.out.on.size)⟩
set_option maxRecDepth 100000 in
set_option maxHeartbeats 1600000 in
theorem pol_Scoped3 (s : Sc) (v : ByteArray) (w : World) (hs : s.op = 3) (hv : v.size ≤ 1000) :
   Calls Tryz.prog 56 #[.agg #[.int .i64 s.op, .string s.ty, .string s.uid.ty, .string s.uid.id], .string v] w fun r w' => NdsRet w r w' (scopeE s v) := by
 have HE : Hid (scopeE s v = [⟨24, 0, s.ty, eB⟩, varN v]) := by show _ = _; unfold scopeE; rw [if_neg (by omega)]; rw [if_neg (by omega)]; rw [if_pos hs]
 rw [hs]
 go_enter Tryz.func56, Tryz.ntmps56
 go_wp2_with fail
 generalize hw4 : (((w.alloc _).alloc _).alloc _).alloc _ = W4
 have hI : ScI w 3 s v W4 := by rw [← hw4]; exact ScI.new w 3 s v _ rfl
 have hz : w.heap.size + 1 + 1 + 1 + 1 = W4.heap.size := by rw [← hw4]; simp
 clear hw4
 rw [hz]
 refine (op1 hI ⟨24, 0, s.ty, eB⟩).mono ?_
 rintro r w1 ⟨A1, c1, rfl, hc1, hm1, hs1, hb1⟩
 have HI2 := Lib.hid (hI.later hb1)
 have c0 := HI2.out.bx.cell
 have l0 := HI2.out.bx.lt
 have HS1 := Lib.hid hs1
 have HC1 := Lib.hid hc1
 clear hI hz hb1 hs1 hc1
 go_wp2_with fail
 go_ret
 rw [HE.out]
 exact ⟨A1, c1, rfl, HC1.out, hm1, HS1.out, HI2.out.on⟩
set_option maxRecDepth 100000 in
set_option maxHeartbeats 1600000 in
theorem pol_Scoped4 (s : Sc) (v : ByteArray) (w : World) (hs : s.op = 4) (hv : v.size ≤ 1000) :
   Calls Tryz.prog 56 #[.agg #[.int .i64 s.op, .string s.ty, .string s.uid.ty, .string s.uid.id], .string v] w fun r w' => NdsRet w r w' (scopeE s v) := by
 have HE : Hid (scopeE s v = [opN 11, ⟨24, 0, s.ty, eB⟩, varN v, opN 20, varN v, entN s.uid]) := by show _ = _; unfold scopeE; rw [if_neg (by omega)]; rw [if_neg (by omega)]; rw [if_neg (by omega)]; rw [if_pos hs]
 rw [hs]
 go_enter Tryz.func56, Tryz.ntmps56
 go_wp2_with fail
 generalize hw4 : (((w.alloc _).alloc _).alloc _).alloc _ = W4
 have hI : ScI w 4 s v W4 := by rw [← hw4]; exact ScI.new w 4 s v _ rfl
 have hz : w.heap.size + 1 + 1 + 1 + 1 = W4.heap.size := by rw [← hw4]; simp
 clear hw4
 rw [hz]
 refine (op1 hI ⟨24, 0, s.ty, eB⟩).mono ?_
 rintro r w1 ⟨A1, c1, rfl, hc1, hm1, hs1, hb1⟩
 have HI2 := Lib.hid (hI.later hb1)
 have c0 := HI2.out.bx.cell
 have l0 := HI2.out.bx.lt
 have HS1 := Lib.hid hs1
 have HC1 := Lib.hid hc1
 clear hI hz hb1 hs1 hc1
 go_wp2_with fail
 refine (op_uid HI2.out (opN 20)).mono ?_
 rintro r w2 ⟨A2, c2, rfl, hc2, hm2, hs2, hb2⟩
 have HG1 : Hid (NsGood w2 w2.heap.size ⟨A1, c1, [⟨24, 0, s.ty, eB⟩, varN v]⟩) := Lib.hid (NsGood.later ⟨HS1.out, HC1.out, hm1⟩ hb2)
 have HG2 : Hid (NsGood w2 w2.heap.size ⟨A2, c2, [opN 20, varN v, entN s.uid]⟩) := Lib.hid ⟨hs2, hc2, hm2⟩
 have hw2 := HI2.out.on.trans (hb2.mono HI2.out.on.size)
 clear hs2 hc2 c0 l0 hb2
 go_wp2_with fail
 refine (op_call (opN 11) [⟨A1, c1, [⟨24, 0, s.ty, eB⟩, varN v]⟩, ⟨A2, c2, [opN 20, varN v, entN s.uid]⟩] _ 2 2 _ rfl rfl rfl (by simpa using ⟨HG1.out, HG2.out⟩) (by simp) (by simp [catN]) (by simp)).mono ?_
 rintro r w3 ⟨A3, c3, rfl, hc3, hm3, hs3, hb3⟩
 have HS := Lib.hid hs3
 have HC := Lib.hid hc3
 clear hs3 hc3
 go_wp2_with fail
 go_ret
 rw [HE.out]
 exact ⟨A3, c3, rfl, HC.out, hm3, HS.out, hw2.trans (hb3.mono hw2.size)⟩
set_option maxRecDepth 100000 in
set_option maxHeartbeats 1600000 in
theorem pol_Scoped9 (s : Sc) (v : ByteArray) (w : World) (h1 : ¬ s.op = 1) (h2 : ¬ s.op = 2) (h3 : ¬ s.op = 3) (h4 : ¬ s.op = 4) (h5 : ¬ s.op = 5) (h6 : ¬ s.op = 6) (hv : v.size ≤ 1000) :
   Calls Tryz.prog 56 #[.agg #[.int .i64 s.op, .string s.ty, .string s.uid.ty, .string s.uid.id], .string v] w fun r w' => NdsRet w r w' (scopeE s v) := by
 have HE : Hid (scopeE s v = [⟨1, 1, eB, eB⟩]) := by show _ = _; unfold scopeE; simp only [h1, h2, h3, h4, h5, h6, if_false]
 have t1 : (s.op == 1) = false := by simp [h1]
 have t2 : (s.op == 2) = false := by simp [h2]
 have t3 : (s.op == 3) = false := by simp [h3]
 have t4 : (s.op == 4) = false := by simp [h4]
 have t5 : (s.op == 5) = false := by simp [h5]
 have t6 : (s.op == 6) = false := by simp [h6]
 clear h1 h2 h3 h4 h5 h6
 go_enter Tryz.func56, Tryz.ntmps56
 go_wp2_with fail
 generalize hw4 : (((w.alloc _).alloc _).alloc _).alloc _ = W4
 have hI : ScI w s.op s v W4 := by rw [← hw4]; exact ScI.new w s.op s v _ rfl
 have hz : w.heap.size + 1 + 1 + 1 + 1 = W4.heap.size := by rw [← hw4]; simp
 clear hw4
 rw [hz]
 refine (op1 hI ⟨24, 0, s.ty, eB⟩).mono ?_
 rintro r w1 ⟨A1, c1, rfl, hc1, hm1, hs1, hb1⟩
 have HI2 := Lib.hid (hI.later hb1)
 have c0 := HI2.out.bx.cell
 have l0 := HI2.out.bx.lt
 have HS1 := Lib.hid hs1
 have HC1 := Lib.hid hc1
 clear hI hz hb1 hs1 hc1
 go_wp2_with fail
 go_ret
 rw [HE.out]
 have hw1 := HI2.out.on
 exact ⟨some ⟨w1.heap.size, 0, none⟩, 1, rfl, Nat.le_refl _, by omega, nd_blk (x := ⟨1, 1, eB, eB⟩) (Blk.new w1 _ _), hw1.alloc hw1.size _⟩
theorem pol_Scoped (s : Sc) (v : ByteArray) (w : World) (hv : v.size ≤ 1000) :
   Calls Tryz.prog 56 #[.agg #[.int .i64 s.op, .string s.ty, .string s.uid.ty, .string s.uid.id], .string v] w fun r w' => NdsRet w r w' (scopeE s v) := by
 by_cases h1 : s.op = 1
 · exact pol_Scoped1 s v w h1 hv
 by_cases h2 : s.op = 2
 · exact pol_Scoped2 s v w h2 hv
 by_cases h3 : s.op = 3
 · exact pol_Scoped3 s v w h3 hv
 by_cases h4 : s.op = 4
 · exact pol_Scoped4 s v w h4 hv
 by_cases h5 : s.op = 5
 · exact pol_Scoped5 s v w h5 hv
 by_cases h6 : s.op = 6
 · exact pol_Scoped6 s v w h6 hv
 exact pol_Scoped9 s v w h1 h2 h3 h4 h5 h6 hv
end Go.Proofs.YtpheiojmcafolaaGreatDoor
namespace Go.Proofs.YtpheiojmcafolaaGreatDoor
open Go.RowKit Go.Sort
set_option maxRecDepth 100000 in
set_option maxHeartbeats 1600000 in
theorem expr_and (a b : NsM) (w : World) (ha : NsGood w w.heap.size a) (hb : NsGood w w.heap.size b) (na : a.e ≠ []) (nb : b.e ≠ []) (hl : a.e.length + b.e.length ≤ 100000) :
   Calls Tryz.prog 54 #[.slice a.A a.e.length a.c, .slice b.A b.e.length b.c] w fun r w' => NdsRet w r w' (andE a.e b.e) := by
 have H := Lib.hid (op_call (W := w) (T := 22) (opN 11) [a, b] #[.slice a.A a.e.length a.c, .slice b.A b.e.length b.c] 2 2 (andE a.e b.e) rfl rfl (by simp [catN, andE]) (by simpa using ⟨ha, hb⟩) (by simpa using ⟨na, nb⟩) (by simp [catN]; omega) (by simp))
 clear ha hb na nb hl
 generalize andE a.e b.e = L at H ⊢
 go_enter Tryz.func54, Tryz.ntmps54
 go_wp2_with fail
 refine H.out.mono ?_
 rintro r w2 ⟨A2, c2, rfl, hc2, hm2, hs2, hb2⟩
 have HS := Lib.hid hs2
 have HC := Lib.hid hc2
 clear hs2 hc2
 go_wp2_with fail
 go_ret
 exact ⟨A2, c2, rfl, HC.out, hm2, HS.out, hb2⟩
theorem NsGood.of {W : World} {A : Option Addr} {c : Nat} {L : List Nd} (h1 : NdSl W W.heap.size A L) (h2 : L.length ≤ c) (h3 : c ≤ 9223372036854775807) : NsGood W W.heap.size ⟨A, c, L⟩ := ⟨h1, h2, h3⟩
def ExS (w w1 : World) (p : Po) (W : World) : Prop :=
 W.cell? ⟨w.heap.size, 2, none⟩ = some (.int .i64 p.who.op) ∧ W.cell? ⟨w.heap.size, 3, none⟩ = some (.string p.who.ty) ∧ W.cell? ⟨w.heap.size, 4, none⟩ = some (.string p.who.uid.ty) ∧ W.cell? ⟨w.heap.size, 5, none⟩ = some (.string p.who.uid.id) ∧ W.cell? ⟨w.heap.size, 6, none⟩ = some (.int .i64 p.act.op) ∧ W.cell? ⟨w.heap.size, 7, none⟩ = some (.string p.act.ty) ∧ W.cell? ⟨w.heap.size, 8, none⟩ = some (.string p.act.uid.ty) ∧ W.cell? ⟨w.heap.size, 9, none⟩ = some (.string p.act.uid.id) ∧ W.cell? ⟨w.heap.size, 10, none⟩ = some (.int .i64 p.what.op) ∧ W.cell? ⟨w.heap.size, 11, none⟩ = some (.string p.what.ty) ∧ W.cell? ⟨w.heap.size, 12, none⟩ = some (.string p.what.uid.ty) ∧ W.cell? ⟨w.heap.size, 13, none⟩ = some (.string p.what.uid.id) ∧ RowKit.Below w1.heap.size w1 W
theorem ExS.keep {w w1 : World} {p : Po} {W W' : World} (h : ExS w w1 p W) (hb : RowKit.Below W.heap.size W W') (hl : w.heap.size < w1.heap.size) : ExS w w1 p W' := by
 obtain ⟨h1, h2, h3, h4, g1, g2, g3, g4, k1, k2, k3, k4, hw⟩ := h
 have hz := hw.size
 have := fun i => hb.cell (p := ⟨w.heap.size, i, none⟩) (show w.heap.size < W.heap.size by omega)
 exact ⟨(this _).trans h1, (this _).trans h2, (this _).trans h3, (this _).trans h4, (this _).trans g1, (this _).trans g2, (this _).trans g3, (this _).trans g4, (this _).trans k1, (this _).trans k2, (this _).trans k3, (this _).trans k4, hw.trans (hb.mono hz)⟩
theorem scopeE_ne (s : Sc) (v : ByteArray) : scopeE s v ≠ [] := by
 unfold scopeE
 repeat' split
 all_goals simp
theorem scopeE_le (s : Sc) (v : ByteArray) : (scopeE s v).length ≤ 6 := by
 unfold scopeE
 repeat' split
 all_goals simp
theorem cds_tree {cs : List CdM} (h : cdsErr (cs.map CdM.cd) = 0) : ∀ x ∈ cs, treeErr x.e = 0 := by
 induction cs with
 | nil => simp
 | cons y r ih =>
   have e : cdsErr ((y :: r).map CdM.cd) = if cdErr y.e ≠ 0 then cdErr y.e else cdsErr (r.map CdM.cd) := rfl
   rw [e] at h
   split at h
   · rename_i hn; exact absurd h hn
   · rename_i hn
     intro x hx
     rcases List.mem_cons.1 hx with rfl | hx
     · have hc : cdErr x.e = 0 := by simpa using hn
       unfold cdErr at hc
       split at hc
       · rename_i ht; exact absurd hc ht
       · rename_i ht; simpa using ht
     · exact ih h x hx
theorem pol_conds {p : Po} {cs : List CdM} (h : polErr p = 0) (hp : p.conds = cs.map CdM.cd) : cs.length ≤ 4 ∧ ∀ x ∈ cs, treeErr x.e = 0 := by
 unfold polErr at h
 split at h
 · rename_i hn; exact absurd h hn
 · split at h
   · cases h
   · split at h
     · cases h
     · rename_i h4
       rw [hp, List.length_map] at h4
       rw [hp] at h
       exact ⟨by omega, cds_tree h⟩
def exprK (e0 : List Nd) (cs : List CdM) : List Nd := cs.foldl (fun e c => andE e (condE c.cd)) e0
theorem exprK_step {e0 : List Nd} {cs : List CdM} {k : Nat} {x : CdM} (h : cs[k]? = some x) : exprK e0 (cs.take (k + 1)) = andE (exprK e0 (cs.take k)) (condE x.cd) := by
 unfold exprK
 rw [List.take_add_one, h, List.foldl_append]; rfl
theorem condE_le {x : CdM} (h : x.e.length ≤ 200) : (condE x.cd).length ≤ 201 := by
 unfold condE
 split
 · show (x.e.length + 1) ≤ 201; omega
 · show x.e.length ≤ 201; omega
theorem exprK_le {e0 : List Nd} {cs : List CdM} (h0 : e0.length ≤ 20) (h : ∀ x ∈ cs, x.e.length ≤ 200) : (exprK e0 cs).length ≤ 20 + 202 * cs.length := by
 suffices H : ∀ (cs : List CdM) (e0 : List Nd), (∀ x ∈ cs, x.e.length ≤ 200) → (exprK e0 cs).length ≤ e0.length + 202 * cs.length by
   have := H cs e0 h; omega
 intro cs
 induction cs with
 | nil => intro e0 _; simp [exprK]
 | cons y r ih =>
   intro e0 hh
   have h1 := ih (andE e0 (condE y.cd)) fun x hx => hh x (List.mem_cons_of_mem _ hx)
   have h2 := condE_le (hh y (List.mem_cons_self ..))
   simp only [List.length_cons, andE_len] at h1 ⊢
   show (exprK (andE e0 (condE y.cd)) r).length ≤ _
   omega
theorem exprE0_le (p : Po) : (exprE0 p).length ≤ 20 := by
 have k0 := scopeE_le p.who prB
 have k1 := scopeE_le p.act acB
 have k2 := scopeE_le p.what reB
 simp only [exprE0, andE_len]; omega
theorem exprK_ne {e0 : List Nd} {cs : List CdM} (h : e0 ≠ []) : exprK e0 cs ≠ [] := by
 induction cs generalizing e0 with
 | nil => exact h
 | cons y r ih => exact ih (andE_ne _ _)
set_option maxRecDepth 100000 in
set_option maxHeartbeats 12800000 in
theorem pol_Expr (p : Po) (cs : List CdM) (A : Option Addr) (c : Nat) (w : World) (hp : p.conds = cs.map CdM.cd) (hz : PoZ p) (hc : CdsAt w w.heap.size A cs) (hl : cs.length ≤ 9223372036854775807) (hk : polErr p = 0) :
   Calls Tryz.prog 21 #[.agg #[.string p.name, .bool p.forbid, .int .i64 p.who.op, .string p.who.ty, .string p.who.uid.ty, .string p.who.uid.id, .int .i64 p.act.op, .string p.act.ty, .string p.act.uid.ty, .string p.act.uid.id, .int .i64 p.what.op, .string p.what.ty, .string p.what.uid.ty, .string p.what.uid.id, .slice A cs.length c]] w fun e w' => NdsBack w e w' (exprP p).1 (exprP p).2 := by
 have HK := Lib.hid (fun (W : World) h => pol_Check p cs A c W hp hz h hl)
 rw [hk] at HK
 have HP := Lib.hid hp
 have HC := Lib.hid hc
 have HKE := Lib.hid hk
 have H0 := Lib.hid (fun W => pol_Scoped p.who prB W (by decide))
 have H1 := Lib.hid (fun W => pol_Scoped p.act acB W (by decide))
 have H2 := Lib.hid (fun W => pol_Scoped p.what reB W (by decide))
 clear hp hc hz hk
 go_enter Tryz.func21, Tryz.ntmps21
 go_wp2_with fail
 refine (HK.out _ (HC.out.later (by (repeat (first | assumption | exact Below.refl _ _ | apply Below.drew | apply below_drewN | (refine Below.alloc ?_ (by first | exact Nat.le_refl _ | omega | (simp; done) | (simp; omega)) _)))))).mono ?_
 rintro r w1 ⟨rfl, hb1⟩
 have B1 := (Blk.new w 47 _).below hb1 (by simp)
 have hw1 : Below w.heap.size w w1 := ((Below.refl _ _).alloc (Nat.le_refl _) _).trans (hb1.mono (by simp))
 clear hb1 HK
 have c1 := B1.cell
 have l1 := B1.lt
 go_wp2_with fail
 have HC1 := Lib.hid (HC.out.later hw1)
 have HS0 : Hid (ExS w w1 p w1.drew) := Lib.hid ⟨c1 2, c1 3, c1 4, c1 5, c1 6, c1 7, c1 8, c1 9, c1 10, c1 11, c1 12, c1 13, (Below.refl _ _).drew⟩
 go_region_held3 (fun W => (W.cell? ⟨w.heap.size, 2, none⟩ = some (.int .i64 p.who.op) ∧ W.cell? ⟨w.heap.size, 3, none⟩ = some (.string p.who.ty) ∧ W.cell? ⟨w.heap.size, 4, none⟩ = some (.string p.who.uid.ty) ∧ W.cell? ⟨w.heap.size, 5, none⟩ = some (.string p.who.uid.id) ∧ W.cell? ⟨w.heap.size, 6, none⟩ = some (.int .i64 p.act.op) ∧ W.cell? ⟨w.heap.size, 7, none⟩ = some (.string p.act.ty) ∧ W.cell? ⟨w.heap.size, 8, none⟩ = some (.string p.act.uid.ty) ∧ W.cell? ⟨w.heap.size, 9, none⟩ = some (.string p.act.uid.id) ∧ W.cell? ⟨w.heap.size, 10, none⟩ = some (.int .i64 p.what.op) ∧ W.cell? ⟨w.heap.size, 11, none⟩ = some (.string p.what.ty) ∧ W.cell? ⟨w.heap.size, 12, none⟩ = some (.string p.what.uid.ty) ∧ W.cell? ⟨w.heap.size, 13, none⟩ = some (.string p.what.uid.id) ∧ RowKit.Below w1.heap.size w1 W)) (first | exact HS0.out | exact ExS.keep (by assumption) hb l1)
   (first
     | (go_at_call 56; ((with_reducible refine (H0.out _).mono ?_)); rintro r W ⟨A0, c0, rfl, hc0, hm0, hs0, hb⟩; have g0 := NsGood.of hs0 hc0 hm0; clear hc0 hm0 hs0)
     | (go_at_call 56; ((with_reducible refine (H1.out _).mono ?_)); rintro r W ⟨A1, c1', rfl, hc0, hm0, hs0, hb⟩; have g1 := NsGood.of hs0 hc0 hm0; replace g0 := g0.later hb; clear hc0 hm0 hs0)
     | (go_at_call 56; ((with_reducible refine (H2.out _).mono ?_)); rintro r W ⟨A3, c3, rfl, hc0, hm0, hs0, hb⟩; have g3 := NsGood.of hs0 hc0 hm0; replace g2 := g2.later hb; clear hc0 hm0 hs0)
     | (go_at_call 54; ((with_reducible refine (expr_and ⟨A0, c0, _⟩ ⟨A1, c1', _⟩ _ g0 g1 (scopeE_ne _ _) (scopeE_ne _ _) ?_).mono ?_)); (have k0 := scopeE_le p.who prB; have k1 := scopeE_le p.act acB; simp only; omega); rintro r W ⟨A2, c2, rfl, hc0, hm0, hs0, hb⟩; have g2 := NsGood.of hs0 hc0 hm0; clear hc0 hm0 hs0)
     | (go_at_call 54; ((with_reducible refine (expr_and ⟨A2, c2, _⟩ ⟨A3, c3, _⟩ _ g2 g3 (andE_ne _ _) (scopeE_ne _ _) ?_).mono ?_)); (have k0 := scopeE_le p.who prB; have k1 := scopeE_le p.act acB; have k2 := scopeE_le p.what reB; simp only [andE_len]; omega); rintro r W ⟨A4, c4, rfl, hc0, hm0, hs0, hb⟩; have g4 := NsGood.of hs0 hc0 hm0; clear hc0 hm0 hs0))
 have hS : ExS w w1 p W := by assumption
 obtain ⟨-, -, -, -, -, -, -, -, -, -, -, -, hwW⟩ := hS
 have c14 : W.cell? ⟨w.heap.size, 14, none⟩ = some (.slice A cs.length c) := (hwW.cell (p := ⟨w.heap.size, 14, none⟩) l1).trans (c1 14)
 have lW : w.heap.size < W.heap.size := by have := hwW.size; omega
 have HG := Lib.hid (show NsGood W W.heap.size ⟨A4, c4, exprE0 p⟩ from g4)
 have HCW := Lib.hid (HC1.out.later hwW)
 have hbW := hw1.trans (hwW.mono hw1.size)
 have HSM := Lib.hid (pol_conds HKE.out HP.out)
 have hl4 := HSM.out.1
 have HLE := Lib.hid (exprE0_le p)
 have HNE : Hid (exprE0 p ≠ []) := Lib.hid (andE_ne _ _)
 have HEX : Hid (exprP p = if 200 < (exprK (exprE0 p) cs).length then ([], 4) else (exprK (exprE0 p) cs, 0)) := by
   show _ = _
   unfold exprP
   rw [if_neg (by rw [HKE.out]; simp)]
   have : exprE p = exprK (exprE0 p) cs := by unfold exprE exprK; rw [HP.out, List.foldl_map]
   rw [this]
 generalize he0 : exprE0 p = e0 at HG HLE HNE HEX g4
 have HE0 := Lib.hid he0
 clear he0
 clear g4 g3 g2 g1 g0 c1 HS0 HC1 HP HKE HC H0 H1 H2
 go_wp2_with fail
 go_loopw [6, 31] (fun ev ii wr => ∃ (k : Nat) (Ae : Option Addr) (ce : Nat), ii = .int .i64 k ∧ ev = .slice Ae (exprK e0 (cs.take k)).length ce ∧ k ≤ cs.length ∧ Hid (NsGood wr wr.heap.size ⟨Ae, ce, exprK e0 (cs.take k)⟩) ∧ RowKit.Below W.heap.size W wr) (fun _ ii _ => cs.length - (intOf ii).toNat)
 case atStart => exact ⟨0, A4, c4, rfl, by rw [← HE0.out]; rfl, by omega, HG, RowKit.Below.refl _ _⟩
 case round =>
   obtain ⟨k, Ae, ce, rfl, rfl, hk, HGk, hbr⟩ := hrel
   have hzr := hbr.size
   by_cases hlt : k < cs.length
   · obtain ⟨⟨u, Ax, cx, e⟩, hx⟩ : ∃ x, cs[k]? = some x := ⟨_, List.getElem?_eq_getElem hlt⟩
     have hg := (HCW.out.later hbr).good _ (List.mem_of_getElem? hx)
     have het : e.length ≤ 200 ∧ 0 < e.length := tree_len (HSM.out.2 _ (List.mem_of_getElem? hx))
     obtain ⟨b, o, rfl, hb, ⟨d0, d1⟩⟩ := cdSl_at (HCW.out.later hbr).sl hx
     have HST := Lib.hid (exprK_step (e0 := e0) hx)
     have hne1 : exprK e0 (cs.take k) ≠ [] := exprK_ne HNE.out
     have hle1 : (exprK e0 (cs.take k)).length ≤ 20 + 202 * 4 := Nat.le_trans (exprK_le HLE.out fun x hx => (tree_len (HSM.out.2 x (List.mem_of_mem_take hx))).1) (by rw [List.length_take]; omega)
     have hx1 : NsGood wr wr.heap.size ⟨Ax, cx, e⟩ := ⟨hg.sl, hg.le, hg.max⟩
     have hen : e ≠ [] := by intro h; subst h; exact absurd het.2 (by simp)
     have HL2 : Hid ((condE ⟨true, e⟩).length = e.length + 1) := rfl
     generalize exprK e0 (cs.take k) = L at HGk hne1 hle1 HST
     have HA := Lib.hid (fun W' (hW : RowKit.Below wr.heap.size wr W') => expr_and ⟨Ae, ce, L⟩ ⟨Ax, cx, e⟩ W' (HGk.out.later hW) (hx1.later hW) hne1 hen (by have := het.1; show L.length + e.length ≤ 100000; omega))
     have HO := Lib.hid (fun W' (hW : RowKit.Below wr.heap.size wr W') => op_call (W := W') (T := 22) (opN 9) [⟨Ax, cx, e⟩] #[.slice Ax e.length cx] 1 1 (condE ⟨true, e⟩) rfl rfl (by simp [condE, catN]) (by simpa using hx1.later hW) (by simpa using hen) (by simp [catN]; omega) (by simp))
     have HA2 := Lib.hid (fun W' A2 c2 (hW : RowKit.Below wr.heap.size wr W') g2 => expr_and ⟨Ae, ce, L⟩ ⟨A2, c2, condE ⟨true, e⟩⟩ W' (HGk.out.later hW) g2 hne1 (List.cons_ne_nil _ _) (by have := het.1; show L.length + (condE ⟨true, e⟩).length ≤ 100000; rw [HL2.out]; omega))
     clear hx hg hx1 hne1 hen HGk HL2
     have hbw : b < wr.heap.size := hb
     cases u with
     | false =>
       go_wp2_with fail
       refine (HA.out _ (by (repeat (first | assumption | exact Below.refl _ _ | apply Below.drew | apply below_drewN | (refine Below.alloc ?_ (by first | exact Nat.le_refl _ | omega | (simp; done) | (simp; omega)) _))))).mono ?_
       rintro r w5 ⟨A5, c5, rfl, hc5, hm5, hs5, hb5⟩
       have hb5' : RowKit.Below W.heap.size W w5 := (hbr.alloc hzr _).trans (hb5.mono (by simp; omega))
       have HN := Lib.hid (NsGood.of hs5 hc5 hm5)
       clear hs5 hc5 hb5
       go_wp2_with fail
       have hst := HST.out
       have hcd : condE ⟨false, e⟩ = e := rfl
       simp only [CdM.cd, hcd] at hst
       exact ⟨⟨k + 1, A5, c5, by go_num, by rw [hst], by omega, by rw [hst]; exact HN, hb5'⟩, by simp [intOf]; omega⟩
     | true =>
       go_wp2_with fail
       generalize hw2 : wr.alloc _ = w2
       have hbw2 : RowKit.Below wr.heap.size wr w2 := by rw [← hw2]; (repeat (first | assumption | exact Below.refl _ _ | apply Below.drew | apply below_drewN | (refine Below.alloc ?_ (by first | exact Nat.le_refl _ | omega | (simp; done) | (simp; omega)) _)))
       have hz2 : wr.heap.size + 1 = w2.heap.size := by rw [← hw2]; simp
       clear hw2
       rw [hz2]
       refine (HO.out _ hbw2).mono ?_
       rintro r w4 ⟨A5, c5, rfl, hc5, hm5, hs5, hb5⟩
       have hbw4 := hbw2.trans (hb5.mono hbw2.size)
       have HG5 := Lib.hid (NsGood.of hs5 hc5 hm5)
       clear hs5 hc5 hb5
       go_wp2_with fail
       refine (HA2.out _ A5 c5 hbw4 HG5.out).mono ?_
       rintro r w5 ⟨A6, c6, rfl, hc6, hm6, hs6, hb6⟩
       have hb6' : RowKit.Below W.heap.size W w5 := hbr.trans ((hbw4.trans (hb6.mono hbw4.size)).mono hzr)
       have HN := Lib.hid (NsGood.of hs6 hc6 hm6)
       clear hs6 hc6 hb6 hbw4 hbw2
       go_wp2_with fail
       have hst := HST.out
       simp only [CdM.cd] at hst
       exact ⟨⟨k + 1, A6, c6, by go_num, by rw [hst], by omega, by rw [hst]; exact HN, hb6'⟩, by simp [intOf]; omega⟩
   · have HT : Hid (cs.take k = cs) := by show _ = _; rw [List.take_of_length_le (by omega)]
     rw [HT.out] at HGk ⊢
     generalize exprK e0 cs = L at HGk HEX ⊢
     by_cases h2 : 200 < L.length
     · have t2 : 200 < (L.length : Int) := by omega
       have HV : Hid (exprP p = ([], 4)) := by show _ = _; rw [HEX.out, if_pos h2]
       clear h2
       go_wp2_with fail
       go_ret2
       rw [HV.out]
       exact NdsBack.none (k := 4) (hbW.trans (hbr.mono hbW.size))
     · have t2 : ¬ 200 < (L.length : Int) := by omega
       have HV : Hid (exprP p = (L, 0)) := by show _ = _; rw [HEX.out, if_neg h2]
       clear h2
       go_wp2_with fail
       go_ret2
       rw [HV.out]
       exact ⟨Ae, ce, rfl, HGk.out.le, HGk.out.max, HGk.out.sl, hbW.trans (hbr.mono hbW.size)⟩
end Go.Proofs.YtpheiojmcafolaaGreatDoor
namespace Go.Proofs.YtpheiojmcafolaaGreatDoor
set_option maxRecDepth 100000
open Go.RowKit Go.Sort
set_option maxHeartbeats 3200000 in
theorem pol_ExprBad (p : Po) (cs : List CdM) (A : Option Addr) (c : Nat) (w : World) (hp : p.conds = cs.map CdM.cd) (hz : PoZ p) (hc : CdsAt w w.heap.size A cs) (hl : cs.length ≤ 9223372036854775807) (hk : ¬ polErr p = 0) :
   Calls Tryz.prog 21 #[.agg #[.string p.name, .bool p.forbid, .int .i64 p.who.op, .string p.who.ty, .string p.who.uid.ty, .string p.who.uid.id, .int .i64 p.act.op, .string p.act.ty, .string p.act.uid.ty, .string p.act.uid.id, .int .i64 p.what.op, .string p.what.ty, .string p.what.uid.ty, .string p.what.uid.id, .slice A cs.length c]] w fun e w' => NdsBack w e w' (exprP p).1 (exprP p).2 := by
 have HK := Lib.hid (fun (W : World) h => pol_Check p cs A c W hp hz h hl)
 have HC := Lib.hid hc
 have HE : Hid (exprP p = ([], polErr p)) := by show _ = _; unfold exprP; rw [if_pos hk]
 rw [HE.out]
 have tk : (polErr p != 0) = true := by simp [hk]
 clear hp hc hz hk HE
 generalize polErr p = k at HK tk ⊢
 go_enter Tryz.func21, Tryz.ntmps21
 go_wp2_with fail
 refine (HK.out _ (HC.out.later (by (repeat (first | assumption | exact Below.refl _ _ | apply Below.drew | apply below_drewN | (refine Below.alloc ?_ (by first | exact Nat.le_refl _ | omega | (simp; done) | (simp; omega)) _)))))).mono ?_
 rintro r w1 ⟨rfl, hb1⟩
 have hw1 : RowKit.Below w.heap.size w w1 := ((RowKit.Below.refl _ _).alloc (Nat.le_refl _) _).trans (hb1.mono (by simp))
 clear hb1 HK
 go_wp2_with fail
 go_ret2
 exact NdsBack.none hw1
theorem pol_Expr_any (p : Po) (cs : List CdM) (A : Option Addr) (c : Nat) (w : World) (hp : p.conds = cs.map CdM.cd) (hz : PoZ p) (hc : CdsAt w w.heap.size A cs) (hl : cs.length ≤ 9223372036854775807) :
   Calls Tryz.prog 21 #[.agg #[.string p.name, .bool p.forbid, .int .i64 p.who.op, .string p.who.ty, .string p.who.uid.ty, .string p.who.uid.id, .int .i64 p.act.op, .string p.act.ty, .string p.act.uid.ty, .string p.act.uid.id, .int .i64 p.what.op, .string p.what.ty, .string p.what.uid.ty, .string p.what.uid.id, .slice A cs.length c]] w fun e w' => NdsBack w e w' (exprP p).1 (exprP p).2 := by
 by_cases hk : polErr p = 0
 · exact pol_Expr p cs A c w hp hz hc hl hk
 · exact pol_ExprBad p cs A c w hp hz hc hl hk
end Go.Proofs.YtpheiojmcafolaaGreatDoor
namespace Go.Proofs.YtpheiojmcafolaaGreatDoor
set_option maxRecDepth 100000
open Go.RowKit Go.Sort
def poA : Po := ⟨⟨#[97]⟩, false, ⟨0, ⟨#[]⟩, ⟨⟨#[]⟩, ⟨#[]⟩⟩⟩, ⟨0, ⟨#[]⟩, ⟨⟨#[]⟩, ⟨#[]⟩⟩⟩, ⟨0, ⟨#[]⟩, ⟨⟨#[]⟩, ⟨#[]⟩⟩⟩, []⟩
theorem exprA : exprP poA = ([opN 11, opN 11, ⟨1, 1, eB, eB⟩, ⟨1, 1, eB, eB⟩, ⟨1, 1, eB, eB⟩], 0) := by
 have hn : nameErr poA.name.toList = 0 := by show nameErr (⟨#[97]⟩ : ByteArray).toList = 0; rw [ByteArray.toList_eq]; decide
 have hs : ∀ b, scOk ⟨0, ⟨#[]⟩, ⟨⟨#[]⟩, ⟨#[]⟩⟩⟩ b = true := fun b => by simp [scOk, udNone, emp, ByteArray.toList_eq]
 have h1 : polErr poA = 0 := by
   unfold polErr
   rw [if_neg (by simp [hn]), if_neg (by show ¬ (scOk _ true = false ∨ scOk _ false = false ∨ scOk _ true = false); simp [poA, hs]), if_neg (by simp [poA])]
   rfl
 have he : exprE poA = [opN 11, opN 11, ⟨1, 1, eB, eB⟩, ⟨1, 1, eB, eB⟩, ⟨1, 1, eB, eB⟩] := rfl
 unfold exprP
 rw [if_neg (by simp [h1]), he, if_neg (by simp)]
theorem pol_expr_a (W : World) : Calls Tryz.prog 21 #[.agg #[.string ⟨#[97]⟩, .bool false, .int .i64 0, .string ⟨#[]⟩, .string ⟨#[]⟩, .string ⟨#[]⟩, .int .i64 0, .string ⟨#[]⟩, .string ⟨#[]⟩, .string ⟨#[]⟩, .int .i64 0, .string ⟨#[]⟩, .string ⟨#[]⟩, .string ⟨#[]⟩, .slice none 0 0]] W fun e w' =>
   (∃ A c, e = .returned (.tuple #[.slice A 5 c, .nilIface])) ∧ RowKit.Below W.heap.size W w' := by
 have h := pol_Expr_any poA [] none 0 W rfl ⟨by decide, ⟨by decide, by decide, by decide⟩, ⟨by decide, by decide, by decide⟩, ⟨by decide, by decide, by decide⟩⟩ ⟨SlG.nil _ _ _, by simp⟩ (by simp)
 refine Calls.mono h ?_
 rintro e w' ⟨A, c, he, _, _, hs, hb⟩
 rw [exprA] at he
 exact ⟨⟨A, c, he⟩, hb⟩
end Go.Proofs.YtpheiojmcafolaaGreatDoor
