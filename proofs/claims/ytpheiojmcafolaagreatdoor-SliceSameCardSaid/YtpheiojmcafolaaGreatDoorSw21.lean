/-
  THE WALK of the law SliceSame (printed by mklawss.py).
-/
import Derived.Test.YtpheiojmcafolaaGreatDoorSw20
namespace Go.Proofs.YtpheiojmcafolaaGreatDoor
set_option maxRecDepth 100000
open Go.RowKit Go.Sort
set_option maxHeartbeats 12800000 in
theorem law_ss_bad (x : Aq) (ps : List PoM) (A : Option Addr) (c : Nat) (w : World) (hI : AqIn x w) (hP : PosIn w A ps) (hk : ¬ askErr x ps = 0) :
   Calls Tryz.prog 12 #[.slice x.Ea x.hs.length x.ec, .slice A ps.length c, .agg #[.string x.q.who.ty, .string x.q.who.id, .string x.q.act.ty, .string x.q.act.id, .string x.q.what.ty, .string x.q.what.id, .slice x.qa x.q.ctx.length x.qc]] w fun r w' => r = .returned (.bool true) ∧ RowKit.Below w.heap.size w w' := by
 have hz : RowKit.Below w.heap.size w (w.alloc (.cells #[.string x.q.who.ty, .string x.q.who.id, .string x.q.act.ty, .string x.q.act.id, .string x.q.what.ty, .string x.q.what.id, .slice x.qa x.q.ctx.length x.qc] 39)) := by (repeat (first | assumption | exact Below.refl _ _ | apply Below.drew | apply below_drewN | (refine Below.alloc ?_ (by first | exact Nat.le_refl _ | omega | (simp; done) | (simp; omega)) _)))
 have HF := Lib.hid (pick_first (w.alloc (.cells #[.string x.q.who.ty, .string x.q.who.id, .string x.q.act.ty, .string x.q.act.id, .string x.q.what.ty, .string x.q.what.id, .slice x.qa x.q.ctx.length x.qc] 39)) (hI.err.below hz hI.err.lt))
 rw [World.size_alloc] at HF
 have hnw : RowKit.Below w.heap.size w ((((w.alloc (.cells #[.string x.q.who.ty, .string x.q.who.id, .string x.q.act.ty, .string x.q.act.id, .string x.q.what.ty, .string x.q.what.id, .slice x.qa x.q.ctx.length x.qc] 39)).alloc (.cells #[.string ⟨#[65]⟩, .string ⟨#[]⟩] 34)).alloc (.cells #[.string ⟨#[97]⟩, .bool false, .int .i64 0, .string ⟨#[]⟩, .string ⟨#[]⟩, .string ⟨#[]⟩, .int .i64 0, .string ⟨#[]⟩, .string ⟨#[]⟩, .string ⟨#[]⟩, .int .i64 0, .string ⟨#[]⟩, .string ⟨#[]⟩, .string ⟨#[]⟩, .slice none 0 0] 47)).alloc (.cells #[.int .i64 6, .int .i64 0, .string ⟨#[]⟩, .string ⟨#[]⟩] 37)) := by (repeat (first | assumption | exact Below.refl _ _ | apply Below.drew | apply below_drewN | (refine Below.alloc ?_ (by first | exact Nat.le_refl _ | omega | (simp; done) | (simp; omega)) _)))
 have HN := Lib.hid hnw
 have B0 := Lib.hid ((((Blk.new w 39 #[.string x.q.who.ty, .string x.q.who.id, .string x.q.act.ty, .string x.q.act.id, .string x.q.what.ty, .string x.q.what.id, .slice x.qa x.q.ctx.length x.qc]).alloc (.cells #[.string ⟨#[65]⟩, .string ⟨#[]⟩] 34)).alloc (.cells #[.string ⟨#[97]⟩, .bool false, .int .i64 0, .string ⟨#[]⟩, .string ⟨#[]⟩, .string ⟨#[]⟩, .int .i64 0, .string ⟨#[]⟩, .string ⟨#[]⟩, .string ⟨#[]⟩, .int .i64 0, .string ⟨#[]⟩, .string ⟨#[]⟩, .string ⟨#[]⟩, .slice none 0 0] 47)).alloc (.cells #[.int .i64 6, .int .i64 0, .string ⟨#[]⟩, .string ⟨#[]⟩] 37))
 have HA := Lib.hid (fun W (hW : RowKit.Below w.heap.size w W) => slice_Pick_bad x ps A c W (hI.later hW) (hP.later hW) hk)
 have tk : (askErr x ps != 0) = true := by simpa using hk
 generalize askErr x ps = k at HA tk
 clear hI hP hk hz hnw
 go_enter Tryz.func12, Tryz.ntmps12
 go_wp2_with fail
 refine HF.out.mono ?_
 rintro r w1 ⟨Af, cf, rfl, hb1⟩
 have B1 := Lib.hid (B0.out.below hb1 B0.out.lt)
 have H1 := Lib.hid (HN.out.trans (hb1.mono HN.out.size))
 have cc := B1.out.cell
 have cl := B1.out.lt
 clear hb1 HF HN B0
 go_wp2_with fail
 refine (HA.out w1 H1.out).mono ?_
 rintro r w2 ⟨rfl, hb2⟩
 have H2 := Lib.hid (H1.out.trans (hb2.mono H1.out.size))
 clear hb2 cc cl
 go_wp2_with fail
 go_ret
 exact ⟨rfl, H2.out⟩
set_option maxHeartbeats 12800000 in
theorem law_ss_ok (x : Aq) (ps : List PoM) (A : Option Addr) (c : Nat) (w : World) (hI : AqIn x w) (hP : PosIn w A ps) (hk : askErr x ps = 0) :
   Calls Tryz.prog 12 #[.slice x.Ea x.hs.length x.ec, .slice A ps.length c, .agg #[.string x.q.who.ty, .string x.q.who.id, .string x.q.act.ty, .string x.q.act.id, .string x.q.what.ty, .string x.q.what.id, .slice x.qa x.q.ctx.length x.qc]] w fun r w' => r = .returned (.bool true) ∧ RowKit.Below w.heap.size w w' := by
 have hz : RowKit.Below w.heap.size w (w.alloc (.cells #[.string x.q.who.ty, .string x.q.who.id, .string x.q.act.ty, .string x.q.act.id, .string x.q.what.ty, .string x.q.what.id, .slice x.qa x.q.ctx.length x.qc] 39)) := by (repeat (first | assumption | exact Below.refl _ _ | apply Below.drew | apply below_drewN | (refine Below.alloc ?_ (by first | exact Nat.le_refl _ | omega | (simp; done) | (simp; omega)) _)))
 have HF := Lib.hid (pick_first (w.alloc (.cells #[.string x.q.who.ty, .string x.q.who.id, .string x.q.act.ty, .string x.q.act.id, .string x.q.what.ty, .string x.q.what.id, .slice x.qa x.q.ctx.length x.qc] 39)) (hI.err.below hz hI.err.lt))
 rw [World.size_alloc] at HF
 have hnw : RowKit.Below w.heap.size w ((((w.alloc (.cells #[.string x.q.who.ty, .string x.q.who.id, .string x.q.act.ty, .string x.q.act.id, .string x.q.what.ty, .string x.q.what.id, .slice x.qa x.q.ctx.length x.qc] 39)).alloc (.cells #[.string ⟨#[65]⟩, .string ⟨#[]⟩] 34)).alloc (.cells #[.string ⟨#[97]⟩, .bool false, .int .i64 0, .string ⟨#[]⟩, .string ⟨#[]⟩, .string ⟨#[]⟩, .int .i64 0, .string ⟨#[]⟩, .string ⟨#[]⟩, .string ⟨#[]⟩, .int .i64 0, .string ⟨#[]⟩, .string ⟨#[]⟩, .string ⟨#[]⟩, .slice none 0 0] 47)).alloc (.cells #[.int .i64 6, .int .i64 0, .string ⟨#[]⟩, .string ⟨#[]⟩] 37)) := by (repeat (first | assumption | exact Below.refl _ _ | apply Below.drew | apply below_drewN | (refine Below.alloc ?_ (by first | exact Nat.le_refl _ | omega | (simp; done) | (simp; omega)) _)))
 have HN := Lib.hid hnw
 have B0 := Lib.hid ((((Blk.new w 39 #[.string x.q.who.ty, .string x.q.who.id, .string x.q.act.ty, .string x.q.act.id, .string x.q.what.ty, .string x.q.what.id, .slice x.qa x.q.ctx.length x.qc]).alloc (.cells #[.string ⟨#[65]⟩, .string ⟨#[]⟩] 34)).alloc (.cells #[.string ⟨#[97]⟩, .bool false, .int .i64 0, .string ⟨#[]⟩, .string ⟨#[]⟩, .string ⟨#[]⟩, .int .i64 0, .string ⟨#[]⟩, .string ⟨#[]⟩, .string ⟨#[]⟩, .int .i64 0, .string ⟨#[]⟩, .string ⟨#[]⟩, .string ⟨#[]⟩, .slice none 0 0] 47)).alloc (.cells #[.int .i64 6, .int .i64 0, .string ⟨#[]⟩, .string ⟨#[]⟩] 37))
 have HA := Lib.hid (fun W (hW : RowKit.Below w.heap.size w W) => slice_Pick_ok x ps A c W (hI.later hW) (hP.later hW) hk)
 have HK1 := Lib.hid (fun W (hW : RowKit.Below w.heap.size w W) => show Calls Tryz.prog 34 #[.slice x.Ea x.hs.length x.ec, .slice A ps.length c, .agg #[.string x.q.who.ty, .string x.q.who.id, .string x.q.act.ty, .string x.q.act.id, .string x.q.what.ty, .string x.q.what.id, .slice x.qa x.q.ctx.length x.qc]] W fun r w' => AnsBack W r w' (aOB x ps) (aBY x ps) (aWR x ps) 0 by
   have h := auth_Ask x ps A c W (hI.later hW) (hP.later hW)
   rw [hk] at h; exact h)
 have HK2 := Lib.hid (fun (ms : List PoM) (hm : ms.map PoM.p = (ps.filter (pickB x)).map PoM.p) W (hW : RowKit.Below w.heap.size w W) A' c' (hp : PosIn W A' ms) => show Calls Tryz.prog 34 #[.slice x.Ea x.hs.length x.ec, .slice A' ms.length c', .agg #[.string x.q.who.ty, .string x.q.who.id, .string x.q.act.ty, .string x.q.act.id, .string x.q.what.ty, .string x.q.what.id, .slice x.qa x.q.ctx.length x.qc]] W fun r w' => AnsBack W r w' (aOB x ps) (aBY x ps) (aWR x ps) 0 by
   have h := auth_Ask x ms A' c' W (hI.later hW) hp
   obtain ⟨g0, g1, g2, g3⟩ := pick_ans hk hm
   rw [g0, g1, g2, g3] at h
   exact h)
 generalize aOB x ps = OB at HK1 HK2
 generalize aBY x ps = BY at HK1 HK2
 generalize aWR x ps = WR at HK1 HK2
 unfold AnsBack at HK1 HK2
 rw [errV_zero] at HK1 HK2
 have HPS := Lib.hid hP
 clear hI hP hk hz hnw
 go_enter Tryz.func12, Tryz.ntmps12
 go_wp2_with fail
 refine HF.out.mono ?_
 rintro r w1 ⟨Af, cf, rfl, hb1⟩
 have B1 := Lib.hid (B0.out.below hb1 B0.out.lt)
 have H1 := Lib.hid (HN.out.trans (hb1.mono HN.out.size))
 have cc := B1.out.cell
 have cl := B1.out.lt
 clear hb1 HF HN B0
 go_wp2_with fail
 refine (HA.out w1 H1.out).mono ?_
 rintro r w2 ⟨Am, cm, ms, rfl, hcm, hcx, hm, hpm, hb2⟩
 have HM := Lib.hid hm
 have HPM := Lib.hid hpm
 have B2 := Lib.hid (B1.out.below hb2 B1.out.lt)
 have H2 := Lib.hid (H1.out.trans (hb2.mono H1.out.size))
 clear hb2 cc cl hm hpm B1 H1 HA
 have cc := B2.out.cell
 have cl := B2.out.lt
 go_wp2_with fail
 refine (HK1.out w2 H2.out).mono ?_
 rintro r w3 ⟨A3, c3, A4, c4, rfl, n1, n2, n3, n4, s1, s2, hb3⟩
 have hal : RowKit.Below w3.heap.size w3 (w3.alloc (.cells #[.bool OB, .slice A3 BY.length c3, .slice A4 WR.length c4] 70)) := by (repeat (first | assumption | exact Below.refl _ _ | apply Below.drew | apply below_drewN | (refine Below.alloc ?_ (by first | exact Nat.le_refl _ | omega | (simp; done) | (simp; omega)) _)))
 have B3 := Lib.hid ((B2.out.below hb3 B2.out.lt).alloc (.cells #[.bool OB, .slice A3 BY.length c3, .slice A4 WR.length c4] 70))
 have D3 := Lib.hid (Blk.new w3 70 #[.bool OB, .slice A3 BY.length c3, .slice A4 WR.length c4])
 have S3 := Lib.hid ((s1.below hal).more hal.size)
 have S4 := Lib.hid ((s2.below hal).more hal.size)
 have H3 := Lib.hid ((H2.out.trans (hb3.mono H2.out.size)).trans (hal.mono (H2.out.trans (hb3.mono H2.out.size)).size))
 have HPM3 := Lib.hid ((HPM.out.later hb3).later hal)
 have hl1 : BY.length ≤ 9223372036854775807 := by omega
 have hl2 : WR.length ≤ 9223372036854775807 := by omega
 clear hb3 s1 s2 hal cc cl B2 H2 HK1 HPM n1 n2 n3 n4
 have cc := B3.out.cell
 have cl := B3.out.lt
 go_wp2_with fail
 refine (HK2.out ms HM.out _ H3.out Am cm HPM3.out).mono ?_
 rintro r w5 ⟨A5, c5, A6, c6, rfl, n1, n2, n3, n4, s5, s6, hb5⟩
 have hal : RowKit.Below w5.heap.size w5 (w5.alloc (.cells #[.bool OB, .slice A5 BY.length c5, .slice A6 WR.length c6] 70)) := by (repeat (first | assumption | exact Below.refl _ _ | apply Below.drew | apply below_drewN | (refine Below.alloc ?_ (by first | exact Nat.le_refl _ | omega | (simp; done) | (simp; omega)) _)))
 have D5 := Lib.hid ((D3.out.below hb5 D3.out.lt).alloc (.cells #[.bool OB, .slice A5 BY.length c5, .slice A6 WR.length c6] 70))
 have E5 := Lib.hid (Blk.new w5 70 #[.bool OB, .slice A5 BY.length c5, .slice A6 WR.length c6])
 have T3 := Lib.hid ((((S3.out.below hb5).more hb5.size).below hal).more hal.size)
 have T4 := Lib.hid ((((S4.out.below hb5).more hb5.size).below hal).more hal.size)
 have S5 := Lib.hid ((s5.below hal).more hal.size)
 have S6 := Lib.hid ((s6.below hal).more hal.size)
 have H5 := Lib.hid ((H3.out.trans (hb5.mono H3.out.size)).trans (hal.mono (H3.out.trans (hb5.mono H3.out.size)).size))
 have dc := D5.out.cell
 have dl := D5.out.lt
 have ec := E5.out.cell
 have el := E5.out.lt
 clear hb5 s5 s6 hal cc cl B3 H3 HK2 HPM3 HM S3 S4 D3 n1 n2 n3 n4
 go_wp2_with fail
 refine (same_Answer OB BY WR A3 A4 A5 A6 c3 c4 c5 c6 _ T3.out T4.out S5.out S6.out hl1 hl2).mono ?_
 rintro r w6 ⟨rfl, hb6⟩
 have H6 := Lib.hid (H5.out.trans (hb6.mono H5.out.size))
 clear hb6 dc dl ec el
 go_wp2_with fail
 go_ret
 exact ⟨rfl, H6.out⟩
theorem law_ssame (x : Aq) (ps : List PoM) (A : Option Addr) (c : Nat) (w : World) (hI : AqIn x w) (hP : PosIn w A ps) :
   Calls Tryz.prog 12 #[.slice x.Ea x.hs.length x.ec, .slice A ps.length c, .agg #[.string x.q.who.ty, .string x.q.who.id, .string x.q.act.ty, .string x.q.act.id, .string x.q.what.ty, .string x.q.what.id, .slice x.qa x.q.ctx.length x.qc]] w fun r w' => r = .returned (.bool true) ∧ RowKit.Below w.heap.size w w' := by
 by_cases hk : askErr x ps = 0
 · exact law_ss_ok x ps A c w hI hP hk
 · exact law_ss_bad x ps A c w hI hP hk
end Go.Proofs.YtpheiojmcafolaaGreatDoor
