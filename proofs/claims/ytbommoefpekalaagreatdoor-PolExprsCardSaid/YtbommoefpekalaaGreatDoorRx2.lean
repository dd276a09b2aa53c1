/-
  THE WALKS: the reference's ScopeExpr.
-/
import Derived.Test.YtbommoefpekalaaGreatDoorRx1
import Derived.Test.YtbommoefpekalaaGreatDoorEx3
namespace Go.Proofs.YtbommoefpekalaaGreatDoor
open Go.RowKit Go.Sort

theorem r4_EntOf (u : Ud) (w : World) : Calls Tryz.prog 73 #[.agg #[.string u.ty, .string u.id]] w fun r w' => NdsRet w r w' [entN u] := by
  go_enter Tryz.func73, Tryz.ntmps73
  go_wp2_with fail
  go_ret
  refine ⟨some ⟨w.heap.size + 1, 0, none⟩, 1, rfl, Nat.le_refl _, by omega, ?_, by (repeat (first | assumption | exact Below.refl _ _ | apply Below.drew | apply below_drewN | (refine Below.alloc ?_ (by first | exact Nat.le_refl _ | omega | (simp; done) | (simp; omega)) _)))⟩
  have := nd_blk (x := entN u) (Blk.new (w.alloc (.cells #[.string u.ty, .string u.id] 40)) 92 #[.int .i64 4, .int .i64 0, .string u.ty, .string u.id])
  rwa [World.size_alloc w] at this
/-- What the call has laid. -/
structure ScJ (w : World) (k : Int) (s : Sc) (v : ByteArray) (W : World) : Prop where
  bx : Blk W w.heap.size 42 #[.int .i64 k, .string s.ty, .string s.uid.ty, .string s.uid.id]
  who : Blk W (w.heap.size + 1) 92 #[.int .i64 8, .int .i64 0, .string v, .string ⟨#[]⟩]
  on : RowKit.Below w.heap.size w W
theorem ScJ.later {w : World} {k : Int} {s : Sc} {v : ByteArray} {W W' : World} (h : ScJ w k s v W) (hb : RowKit.Below W.heap.size W W') : ScJ w k s v W' :=
  ⟨h.bx.below hb h.bx.lt, h.who.below hb h.who.lt, h.on.trans (hb.mono h.on.size)⟩
theorem ScJ.new (w : World) (k : Int) (s : Sc) (v : ByteArray) : ScJ w k s v ((w.alloc (.cells #[.int .i64 k, .string s.ty, .string s.uid.ty, .string s.uid.id] 42)).alloc (.cells #[.int .i64 8, .int .i64 0, .string v, .string ⟨#[]⟩] 92)) := by
  refine ⟨(Blk.new w _ _).alloc _, ?_, by (repeat (first | assumption | exact Below.refl _ _ | apply Below.drew | apply below_drewN | (refine Below.alloc ?_ (by first | exact Nat.le_refl _ | omega | (simp; done) | (simp; omega)) _)))⟩
  have := Blk.new (w.alloc (.cells #[.int .i64 k, .string s.ty, .string s.uid.ty, .string s.uid.id] 42)) 92 #[.int .i64 8, .int .i64 0, .string v, .string ⟨#[]⟩]
  rwa [World.size_alloc] at this
theorem NdsRet.from {w W : World} {r : Ending} {w' : World} {xs : List Nd} (h : NdsRet W r w' xs) (hb : RowKit.Below w.heap.size w W) : NdsRet w r w' xs := by
  obtain ⟨A, c, h1, h2, h3, h4, h5⟩ := h
  exact ⟨A, c, h1, h2, h3, h4, hb.trans (h5.mono hb.size)⟩
/-- A node that was just laid. -/
theorem ns_new (W : World) (x : Nd) : NsGood (W.alloc (.cells #[.int .i64 x.op, .int .i64 x.n, .string x.s, .string x.t] 92)) (W.alloc (.cells #[.int .i64 x.op, .int .i64 x.n, .string x.s, .string x.t] 92)).heap.size ⟨some ⟨W.heap.size, 0, none⟩, 1, [x]⟩ := ns_blk x (Blk.new W _ _)

set_option maxRecDepth 100000 in
set_option maxHeartbeats 1600000 in
theorem r4_Scope0 (s : Sc) (v : ByteArray) (w : World) (hs : s.op = 0) (hv : v.size ≤ 1000) :
    Calls Tryz.prog 49 #[.agg #[.int .i64 s.op, .string s.ty, .string s.uid.ty, .string s.uid.id], .string v] w fun r w' => NdsRet w r w' (scopeE s v) := by
  have HE : Hid (scopeE s v = [⟨1, 1, eB, eB⟩]) := by show _ = _; unfold scopeE; rw [if_neg (by omega)]; rw [if_neg (by omega)]; rw [if_neg (by omega)]; rw [if_neg (by omega)]; rw [if_neg (by omega)]; rw [if_neg (by omega)]
  rw [hs]
  go_enter Tryz.func49, Tryz.ntmps49
  go_wp2_with fail
  refine (r4_EntOf s.uid _).mono ?_
  rintro r w1 ⟨A1, c1, rfl, hc1, hm1, hs1, hb1⟩
  have hI := (ScJ.new w 0 s v).later hb1
  have HI := Lib.hid hI
  have HU := Lib.hid (NsGood.of hs1 hc1 hm1)
  have HW := Lib.hid (ns_blk (varN v) hI.who)
  have c0 := hI.bx.cell
  have l0 := hI.bx.lt
  have l1 := hI.on.size
  clear hI hs1 hc1 hb1
  go_wp2_with fail
  go_ret
  rw [HE.out]
  exact ⟨some ⟨w1.heap.size, 0, none⟩, 1, rfl, Nat.le_refl _, by omega, nd_blk (x := ⟨1, 1, eB, eB⟩) (Blk.new w1 _ _), HI.out.on.alloc l1 _⟩
set_option maxRecDepth 100000 in
set_option maxHeartbeats 1600000 in
theorem r4_Scope1 (s : Sc) (v : ByteArray) (w : World) (hs : s.op = 1) (hv : v.size ≤ 1000) :
    Calls Tryz.prog 49 #[.agg #[.int .i64 s.op, .string s.ty, .string s.uid.ty, .string s.uid.id], .string v] w fun r w' => NdsRet w r w' (scopeE s v) := by
  have HE : Hid (scopeE s v = [opN 14, varN v, entN s.uid]) := by show _ = _; unfold scopeE; rw [if_pos hs]
  rw [hs]
  go_enter Tryz.func49, Tryz.ntmps49
  go_wp2_with fail
  refine (r4_EntOf s.uid _).mono ?_
  rintro r w1 ⟨A1, c1, rfl, hc1, hm1, hs1, hb1⟩
  have hI := (ScJ.new w 1 s v).later hb1
  have HI := Lib.hid hI
  have HU := Lib.hid (NsGood.of hs1 hc1 hm1)
  have HW := Lib.hid (ns_blk (varN v) hI.who)
  have c0 := hI.bx.cell
  have l0 := hI.bx.lt
  have l1 := hI.on.size
  clear hI hs1 hc1 hb1
  go_wp2_with fail
  refine (r4_glued (opN 14) ⟨some ⟨w.heap.size + 1, 0, none⟩, 1, [varN v]⟩ ⟨A1, c1, [entN s.uid]⟩ _ HW.out HU.out (by simp) (by simp) (by simp)).mono ?_
  rintro r w2 ⟨A2, c2, rfl, hc2, hm2, hs2, hb2⟩
  have HS := Lib.hid hs2
  have HC := Lib.hid hc2
  have HB := Lib.hid hb2
  clear hs2 hc2 hb2
  go_wp2_with fail
  go_ret
  rw [HE.out]
  exact ⟨A2, c2, rfl, HC.out, hm2, HS.out, HI.out.on.trans (HB.out.mono l1)⟩
set_option maxRecDepth 100000 in
set_option maxHeartbeats 1600000 in
theorem r4_Scope2 (s : Sc) (v : ByteArray) (w : World) (hs : s.op = 2) (hv : v.size ≤ 1000) :
    Calls Tryz.prog 49 #[.agg #[.int .i64 s.op, .string s.ty, .string s.uid.ty, .string s.uid.id], .string v] w fun r w' => NdsRet w r w' (scopeE s v) := by
  have HE : Hid (scopeE s v = [opN 20, varN v, entN s.uid]) := by show _ = _; unfold scopeE; rw [if_neg (by omega)]; rw [if_pos hs]
  rw [hs]
  go_enter Tryz.func49, Tryz.ntmps49
  go_wp2_with fail
  refine (r4_EntOf s.uid _).mono ?_
  rintro r w1 ⟨A1, c1, rfl, hc1, hm1, hs1, hb1⟩
  have hI := (ScJ.new w 2 s v).later hb1
  have HI := Lib.hid hI
  have HU := Lib.hid (NsGood.of hs1 hc1 hm1)
  have HW := Lib.hid (ns_blk (varN v) hI.who)
  have c0 := hI.bx.cell
  have l0 := hI.bx.lt
  have l1 := hI.on.size
  clear hI hs1 hc1 hb1
  go_wp2_with fail
  refine (r4_glued (opN 20) ⟨some ⟨w.heap.size + 1, 0, none⟩, 1, [varN v]⟩ ⟨A1, c1, [entN s.uid]⟩ _ HW.out HU.out (by simp) (by simp) (by simp)).mono ?_
  rintro r w2 ⟨A2, c2, rfl, hc2, hm2, hs2, hb2⟩
  have HS := Lib.hid hs2
  have HC := Lib.hid hc2
  have HB := Lib.hid hb2
  clear hs2 hc2 hb2
  go_wp2_with fail
  go_ret
  rw [HE.out]
  exact ⟨A2, c2, rfl, HC.out, hm2, HS.out, HI.out.on.trans (HB.out.mono l1)⟩
set_option maxRecDepth 100000 in
set_option maxHeartbeats 1600000 in
theorem r4_Scope3 (s : Sc) (v : ByteArray) (w : World) (hs : s.op = 3) (hv : v.size ≤ 1000) :
    Calls Tryz.prog 49 #[.agg #[.int .i64 s.op, .string s.ty, .string s.uid.ty, .string s.uid.id], .string v] w fun r w' => NdsRet w r w' (scopeE s v) := by
  have HE : Hid (scopeE s v = [⟨24, 0, s.ty, eB⟩, varN v]) := by show _ = _; unfold scopeE; rw [if_neg (by omega)]; rw [if_neg (by omega)]; rw [if_pos hs]
  rw [hs]
  go_enter Tryz.func49, Tryz.ntmps49
  go_wp2_with fail
  refine (r4_EntOf s.uid _).mono ?_
  rintro r w1 ⟨A1, c1, rfl, hc1, hm1, hs1, hb1⟩
  have hI := (ScJ.new w 3 s v).later hb1
  have HI := Lib.hid hI
  have HU := Lib.hid (NsGood.of hs1 hc1 hm1)
  have HW := Lib.hid (ns_blk (varN v) hI.who)
  have c0 := hI.bx.cell
  have l0 := hI.bx.lt
  have l1 := hI.on.size
  clear hI hs1 hc1 hb1
  go_wp2_with fail
  refine (r4_glued1 ⟨24, 0, s.ty, eB⟩ ⟨some ⟨w.heap.size + 1, 0, none⟩, 1, [varN v]⟩ _ HW.out (by simp) (by simp)).mono ?_
  rintro r w2 ⟨A2, c2, rfl, hc2, hm2, hs2, hb2, -⟩
  have HS := Lib.hid hs2
  have HC := Lib.hid hc2
  have HB := Lib.hid hb2
  have HI2 := Lib.hid (HI.out.later hb2)
  have d0 := HI2.out.bx.cell
  have e0 := HI2.out.bx.lt
  clear c0 l0
  clear hs2 hc2 hb2
  go_wp2_with fail
  go_ret
  rw [HE.out]
  exact ⟨A2, c2, rfl, HC.out, hm2, HS.out, HI2.out.on⟩
set_option maxRecDepth 100000 in
set_option maxHeartbeats 1600000 in
theorem r4_Scope4 (s : Sc) (v : ByteArray) (w : World) (hs : s.op = 4) (hv : v.size ≤ 1000) :
    Calls Tryz.prog 49 #[.agg #[.int .i64 s.op, .string s.ty, .string s.uid.ty, .string s.uid.id], .string v] w fun r w' => NdsRet w r w' (scopeE s v) := by
  have HE : Hid (scopeE s v = [opN 11, ⟨24, 0, s.ty, eB⟩, varN v, opN 20, varN v, entN s.uid]) := by show _ = _; unfold scopeE; rw [if_neg (by omega)]; rw [if_neg (by omega)]; rw [if_neg (by omega)]; rw [if_pos hs]
  rw [hs]
  go_enter Tryz.func49, Tryz.ntmps49
  go_wp2_with fail
  refine (r4_EntOf s.uid _).mono ?_
  rintro r w1 ⟨A1, c1, rfl, hc1, hm1, hs1, hb1⟩
  have hI := (ScJ.new w 4 s v).later hb1
  have HI := Lib.hid hI
  have HU := Lib.hid (NsGood.of hs1 hc1 hm1)
  have HW := Lib.hid (ns_blk (varN v) hI.who)
  have c0 := hI.bx.cell
  have l0 := hI.bx.lt
  have l1 := hI.on.size
  clear hI hs1 hc1 hb1
  go_wp2_with fail
  refine (r4_glued1 ⟨24, 0, s.ty, eB⟩ ⟨some ⟨w.heap.size + 1, 0, none⟩, 1, [varN v]⟩ _ HW.out (by simp) (by simp)).mono ?_
  rintro r w2 ⟨A2, c2, rfl, hc2, hm2, hs2, hb2, -⟩
  have HS := Lib.hid hs2
  have HC := Lib.hid hc2
  have HB := Lib.hid hb2
  have HI2 := Lib.hid (HI.out.later hb2)
  have d0 := HI2.out.bx.cell
  have e0 := HI2.out.bx.lt
  clear c0 l0
  clear hs2 hc2 hb2
  go_wp2_with fail
  refine (r4_glued (opN 20) ⟨some ⟨w.heap.size + 1, 0, none⟩, 1, [varN v]⟩ ⟨A1, c1, [entN s.uid]⟩ _ (HW.out.later HB.out) (HU.out.later HB.out) (by simp) (by simp) (by simp)).mono ?_
  rintro r w3 ⟨A3, c3, rfl, hc3, hm3, hs3, hb3⟩
  have HG3 := Lib.hid (NsGood.of hs3 hc3 hm3)
  have HG2 := Lib.hid ((NsGood.of HS.out HC.out hm2).later hb3)
  have HB3 := Lib.hid hb3
  clear hs3 hc3 hb3
  go_wp2_with fail
  refine (r4_glued (opN 11) ⟨A2, c2, [⟨24, 0, s.ty, eB⟩, varN v]⟩ ⟨A3, c3, [opN 20, varN v, entN s.uid]⟩ _ HG2.out HG3.out (by simp) (by simp) (by simp)).mono ?_
  rintro r w4 ⟨A4, c4, rfl, hc4, hm4, hs4, hb4⟩
  have HS4 := Lib.hid hs4
  have HC4 := Lib.hid hc4
  have hon : RowKit.Below w.heap.size w w3 := HI2.out.on.trans (HB3.out.mono HI2.out.on.size)
  clear hs4 hc4
  go_wp2_with fail
  go_ret
  rw [HE.out]
  exact ⟨A4, c4, rfl, HC4.out, hm4, HS4.out, hon.trans (hb4.mono hon.size)⟩
set_option maxRecDepth 100000 in
set_option maxHeartbeats 1600000 in
theorem r4_Scope5 (s : Sc) (v : ByteArray) (w : World) (hs : s.op = 5) (hv : v.size ≤ 1000) :
    Calls Tryz.prog 49 #[.agg #[.int .i64 s.op, .string s.ty, .string s.uid.ty, .string s.uid.id], .string v] w fun r w' => NdsRet w r w' (scopeE s v) := by
  have HE : Hid (scopeE s v = [opN 14, varN v, varN (qB v)]) := by show _ = _; unfold scopeE; rw [if_neg (by omega)]; rw [if_neg (by omega)]; rw [if_neg (by omega)]; rw [if_neg (by omega)]; rw [if_pos hs]
  rw [hs]
  go_enter Tryz.func49, Tryz.ntmps49
  go_wp2_with fail
  refine (r4_EntOf s.uid _).mono ?_
  rintro r w1 ⟨A1, c1, rfl, hc1, hm1, hs1, hb1⟩
  have hI := (ScJ.new w 5 s v).later hb1
  have HI := Lib.hid hI
  have HU := Lib.hid (NsGood.of hs1 hc1 hm1)
  have HW := Lib.hid (ns_blk (varN v) hI.who)
  have c0 := hI.bx.cell
  have l0 := hI.bx.lt
  have l1 := hI.on.size
  clear hI hs1 hc1 hb1
  go_wp2_with fail
  have ha : RowKit.Below w1.heap.size w1 (w1.alloc (.cells #[.int .i64 8, .int .i64 0, .string (qB v), .string ⟨#[]⟩] 92)) := by (repeat (first | assumption | exact Below.refl _ _ | apply Below.drew | apply below_drewN | (refine Below.alloc ?_ (by first | exact Nat.le_refl _ | omega | (simp; done) | (simp; omega)) _)))
  refine (r4_glued (opN 14) ⟨some ⟨w.heap.size + 1, 0, none⟩, 1, [varN v]⟩ ⟨some ⟨w1.heap.size, 0, none⟩, 1, [varN (qB v)]⟩ _ (HW.out.later ha) (ns_new w1 (varN (qB v))) (by simp) (by simp) (by simp)).mono ?_
  rintro r w2 ⟨A2, c2, rfl, hc2, hm2, hs2, hb2⟩
  have HS := Lib.hid hs2
  have HC := Lib.hid hc2
  have HB := Lib.hid hb2
  clear hs2 hc2 hb2
  go_wp2_with fail
  go_ret
  rw [HE.out]
  exact ⟨A2, c2, rfl, HC.out, hm2, HS.out, (HI.out.on.alloc l1 _).trans (HB.out.mono (by simp; omega))⟩
set_option maxRecDepth 100000 in
set_option maxHeartbeats 1600000 in
theorem r4_Scope6 (s : Sc) (v : ByteArray) (w : World) (hs : s.op = 6) (hv : v.size ≤ 1000) :
    Calls Tryz.prog 49 #[.agg #[.int .i64 s.op, .string s.ty, .string s.uid.ty, .string s.uid.id], .string v] w fun r w' => NdsRet w r w' (scopeE s v) := by
  have HE : Hid (scopeE s v = [opN 20, varN v, varN (qB v)]) := by show _ = _; unfold scopeE; rw [if_neg (by omega)]; rw [if_neg (by omega)]; rw [if_neg (by omega)]; rw [if_neg (by omega)]; rw [if_neg (by omega)]; rw [if_pos hs]
  rw [hs]
  go_enter Tryz.func49, Tryz.ntmps49
  go_wp2_with fail
  refine (r4_EntOf s.uid _).mono ?_
  rintro r w1 ⟨A1, c1, rfl, hc1, hm1, hs1, hb1⟩
  have hI := (ScJ.new w 6 s v).later hb1
  have HI := Lib.hid hI
  have HU := Lib.hid (NsGood.of hs1 hc1 hm1)
  have HW := Lib.hid (ns_blk (varN v) hI.who)
  have c0 := hI.bx.cell
  have l0 := hI.bx.lt
  have l1 := hI.on.size
  clear hI hs1 hc1 hb1
  go_wp2_with fail
  have ha : RowKit.Below w1.heap.size w1 (w1.alloc (.cells #[.int .i64 8, .int .i64 0, .string (qB v), .string ⟨#[]⟩] 92)) := by (repeat (first | assumption | exact Below.refl _ _ | apply Below.drew | apply below_drewN | (refine Below.alloc ?_ (by first | exact Nat.le_refl _ | omega | (simp; done) | (simp; omega)) _)))
  refine (r4_glued (opN 20) ⟨some ⟨w.heap.size + 1, 0, none⟩, 1, [varN v]⟩ ⟨some ⟨w1.heap.size, 0, none⟩, 1, [varN (qB v)]⟩ _ (HW.out.later ha) (ns_new w1 (varN (qB v))) (by simp) (by simp) (by simp)).mono ?_
  rintro r w2 ⟨A2, c2, rfl, hc2, hm2, hs2, hb2⟩
  have HS := Lib.hid hs2
  have HC := Lib.hid hc2
  have HB := Lib.hid hb2
  clear hs2 hc2 hb2
  go_wp2_with fail
  go_ret
  rw [HE.out]
  exact ⟨A2, c2, rfl, HC.out, hm2, HS.out, (HI.out.on.alloc l1 _).trans (HB.out.mono (by simp; omega))⟩
theorem r4_ScopeExpr (s : Sc) (v : ByteArray) (w : World) (hv : v.size ≤ 1000) (h : 0 ≤ s.op ∧ s.op ≤ 6) :
    Calls Tryz.prog 49 #[.agg #[.int .i64 s.op, .string s.ty, .string s.uid.ty, .string s.uid.id], .string v] w fun r w' => NdsRet w r w' (scopeE s v) := by
  by_cases h0 : s.op = 0
  · exact r4_Scope0 s v w h0 hv
  by_cases h1 : s.op = 1
  · exact r4_Scope1 s v w h1 hv
  by_cases h2 : s.op = 2
  · exact r4_Scope2 s v w h2 hv
  by_cases h3 : s.op = 3
  · exact r4_Scope3 s v w h3 hv
  by_cases h4 : s.op = 4
  · exact r4_Scope4 s v w h4 hv
  by_cases h5 : s.op = 5
  · exact r4_Scope5 s v w h5 hv
  exact r4_Scope6 s v w (by omega) hv
end Go.Proofs.YtbommoefpekalaaGreatDoor
