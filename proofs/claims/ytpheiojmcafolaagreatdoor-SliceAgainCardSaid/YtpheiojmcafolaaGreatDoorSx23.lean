/-
  THE WALK of the law SliceAgain (printed by mklawsg.py).
-/
import Derived.Test.YtpheiojmcafolaaGreatDoorSx20
import Derived.Test.YtpheiojmcafolaaGreatDoorSx21
import Derived.Test.YtpheiojmcafolaaGreatDoorSx22
namespace Go.Proofs.YtpheiojmcafolaaGreatDoor
set_option maxRecDepth 100000
open Go.RowKit Go.Sort
theorem filt_map (F : Po → Bool) (l : List PoM) : (l.filter fun y => F y.p).map PoM.p = (l.map PoM.p).filter F := by
 induction l with
 | nil => rfl
 | cons a l ih =>
   rw [List.map_cons]
   by_cases hc : F a.p = true
   · rw [List.filter_cons_of_pos (by simpa using hc), List.filter_cons_of_pos (by simpa using hc), List.map_cons, ih]
   · rw [List.filter_cons_of_neg (by simpa using hc), List.filter_cons_of_neg (by simpa using hc), ih]
theorem pick_again {x : Aq} {ps ms ms2 : List PoM} (hm : ms.map PoM.p = (ps.filter (pickB x)).map PoM.p) (h2 : ms2.map PoM.p = (ms.filter (pickB x)).map PoM.p) : ms2.map PoM.p = ms.map PoM.p := by
 have e : ∀ l : List PoM, (l.filter (pickB x)).map PoM.p = (l.map PoM.p).filter (scopesB x.es x.q) := fun l => filt_map (scopesB x.es x.q) l
 rw [h2, e, hm, e, List.filter_filter]
 simp
theorem pick_names {x : Aq} {ps ms : List PoM} (hk : askErr x ps = 0) (hm : ms.map PoM.p = (ps.filter (pickB x)).map PoM.p) : ∀ y ∈ ps, (ms.map nmQ).contains y.p.name.toList = pickB x y := by
 intro y hy
 obtain ⟨-, -, hnd⟩ := aErr_use (firstI_zero hk).2.1
 have e : ms.map nmQ = (ps.filter (pickB x)).map nmQ := by
   have : ∀ l : List PoM, l.map nmQ = (l.map PoM.p).map fun p => p.name.toList := fun l => by rw [List.map_map]; rfl
   rw [this, hm, ← this]
 rw [e, Bool.eq_iff_iff, List.contains_iff_mem]
 exact pick_mem hnd hy
theorem pick_none {x : Aq} {ps : List PoM} (hk : askErr x ps = 0) : ∀ y ∈ ps, pickB x y = false → (aBY x ps).contains y.p.name.toList = false ∧ (aWR x ps).contains y.p.name.toList = false := by
 intro y hy hp
 obtain ⟨-, -, hnd⟩ := aErr_use (firstI_zero hk).2.1
 obtain ⟨h1, h2⟩ := pick_matters (fb := fbQ) hnd (vt_unpicked hk) hy hp
 unfold aBY aWR
 rw [if_pos hk, if_pos hk]
 exact ⟨by rw [Bool.eq_false_iff]; intro hc; exact h1 (List.contains_iff_mem.1 hc), by rw [Bool.eq_false_iff]; intro hc; exact h2 (List.contains_iff_mem.1 hc)⟩
set_option maxHeartbeats 12800000 in
theorem law_sg_bad (x : Aq) (ps : List PoM) (A : Option Addr) (c : Nat) (w : World) (hI : AqIn x w) (hP : PosIn w A ps) (hk : ¬ askErr x ps = 0) :
   Calls Tryz.prog 13 #[.slice x.Ea x.hs.length x.ec, .slice A ps.length c, .agg #[.string x.q.who.ty, .string x.q.who.id, .string x.q.act.ty, .string x.q.act.id, .string x.q.what.ty, .string x.q.what.id, .slice x.qa x.q.ctx.length x.qc]] w fun r w' => r = .returned (.bool true) ∧ RowKit.Below w.heap.size w w' := by
 have hz : RowKit.Below w.heap.size w (w.alloc (.cells #[.string x.q.who.ty, .string x.q.who.id, .string x.q.act.ty, .string x.q.act.id, .string x.q.what.ty, .string x.q.what.id, .slice x.qa x.q.ctx.length x.qc] 39)) := by (repeat (first | assumption | exact Below.refl _ _ | apply Below.drew | apply below_drewN | (refine Below.alloc ?_ (by first | exact Nat.le_refl _ | omega | (simp; done) | (simp; omega)) _)))
 have HF := Lib.hid (pick_first (w.alloc (.cells #[.string x.q.who.ty, .string x.q.who.id, .string x.q.act.ty, .string x.q.act.id, .string x.q.what.ty, .string x.q.what.id, .slice x.qa x.q.ctx.length x.qc] 39)) (hI.err.below hz hI.err.lt))
 rw [World.size_alloc] at HF
 have hnw : RowKit.Below w.heap.size w ((((w.alloc (.cells #[.string x.q.who.ty, .string x.q.who.id, .string x.q.act.ty, .string x.q.act.id, .string x.q.what.ty, .string x.q.what.id, .slice x.qa x.q.ctx.length x.qc] 39)).alloc (.cells #[.string ⟨#[65]⟩, .string ⟨#[]⟩] 34)).alloc (.cells #[.string ⟨#[97]⟩, .bool false, .int .i64 0, .string ⟨#[]⟩, .string ⟨#[]⟩, .string ⟨#[]⟩, .int .i64 0, .string ⟨#[]⟩, .string ⟨#[]⟩, .string ⟨#[]⟩, .int .i64 0, .string ⟨#[]⟩, .string ⟨#[]⟩, .string ⟨#[]⟩, .slice none 0 0] 47)).alloc (.cells #[.int .i64 6, .int .i64 0, .string ⟨#[]⟩, .string ⟨#[]⟩] 37)) := by (repeat (first | assumption | exact Below.refl _ _ | apply Below.drew | apply below_drewN | (refine Below.alloc ?_ (by first | exact Nat.le_refl _ | omega | (simp; done) | (simp; omega)) _)))
 have HN := Lib.hid hnw
 have B0 := Lib.hid ((((Blk.new w 39 #[.string x.q.who.ty, .string x.q.who.id, .string x.q.act.ty, .string x.q.act.id, .string x.q.what.ty, .string x.q.what.id, .slice x.qa x.q.ctx.length x.qc]).alloc (.cells #[.string ⟨#[65]⟩, .string ⟨#[]⟩] 34)).alloc (.cells #[.string ⟨#[97]⟩, .bool false, .int .i64 0, .string ⟨#[]⟩, .string ⟨#[]⟩, .string ⟨#[]⟩, .int .i64 0, .string ⟨#[]⟩, .string ⟨#[]⟩, .string ⟨#[]⟩, .int .i64 0, .string ⟨#[]⟩, .string ⟨#[]⟩, .string ⟨#[]⟩, .slice none 0 0] 47)).alloc (.cells #[.int .i64 6, .int .i64 0, .string ⟨#[]⟩, .string ⟨#[]⟩] 37))
 have HA := Lib.hid (fun W (hW : RowKit.Below w.heap.size w W) => slice_Pick_bad x ps A c W (hI.later hW) (hP.later hW) hk)
 have HK := Lib.hid (fun W (hW : RowKit.Below w.heap.size w W) => auth_Ask_bad x ps A c W (hI.later hW) (hP.later hW) hk)
 unfold AnsBack at HK
 have tk : (askErr x ps != 0) = true := by simpa using hk
 generalize askErr x ps = k at HA HK tk
 clear hI hP hk hz hnw
 go_enter Tryz.func13, Tryz.ntmps13
 go_wp2_with fail
 refine HF.out.mono ?_
 rintro r w1 ⟨Af, cf, rfl, hb1⟩
 have B1 := Lib.hid (B0.out.below hb1 B0.out.lt)
 have H1 := Lib.hid (HN.out.trans (hb1.mono HN.out.size))
 have cc := B1.out.cell
 have cl := B1.out.lt
 clear hb1 HF HN B0
 go_wp2_with fail
 refine (HA.out w1 H1.out).mono ?_
 rintro r w2 ⟨rfl, hb2⟩
 have B2 := Lib.hid (B1.out.below hb2 B1.out.lt)
 have H2 := Lib.hid (H1.out.trans (hb2.mono H1.out.size))
 clear hb2 cc cl B1
 have cc := B2.out.cell
 have cl := B2.out.lt
 go_wp2_with fail
 refine (HK.out w2 H2.out).mono ?_
 rintro r w3 ⟨A1, c1, A2, c2, rfl, _, _, _, _, _, _, hb3⟩
 have H3 := Lib.hid (H2.out.trans (hb3.mono H2.out.size))
 clear hb3 cc cl
 go_wp2_with fail
 go_ret
 exact ⟨rfl, H3.out.alloc H3.out.size _⟩
set_option maxHeartbeats 25600000 in
theorem law_sg_ok (x : Aq) (ps : List PoM) (A : Option Addr) (c : Nat) (w : World) (hI : AqIn x w) (hP : PosIn w A ps) (hle : ps.length ≤ c) (_hmx : c ≤ 9223372036854775807) (hk : askErr x ps = 0) :
   Calls Tryz.prog 13 #[.slice x.Ea x.hs.length x.ec, .slice A ps.length c, .agg #[.string x.q.who.ty, .string x.q.who.id, .string x.q.act.ty, .string x.q.act.id, .string x.q.what.ty, .string x.q.what.id, .slice x.qa x.q.ctx.length x.qc]] w fun r w' => r = .returned (.bool true) ∧ RowKit.Below w.heap.size w w' := by
 have hz : RowKit.Below w.heap.size w (w.alloc (.cells #[.string x.q.who.ty, .string x.q.who.id, .string x.q.act.ty, .string x.q.act.id, .string x.q.what.ty, .string x.q.what.id, .slice x.qa x.q.ctx.length x.qc] 39)) := by (repeat (first | assumption | exact Below.refl _ _ | apply Below.drew | apply below_drewN | (refine Below.alloc ?_ (by first | exact Nat.le_refl _ | omega | (simp; done) | (simp; omega)) _)))
 have HF := Lib.hid (pick_first (w.alloc (.cells #[.string x.q.who.ty, .string x.q.who.id, .string x.q.act.ty, .string x.q.act.id, .string x.q.what.ty, .string x.q.what.id, .slice x.qa x.q.ctx.length x.qc] 39)) (hI.err.below hz hI.err.lt))
 rw [World.size_alloc] at HF
 have hnw : RowKit.Below w.heap.size w ((((w.alloc (.cells #[.string x.q.who.ty, .string x.q.who.id, .string x.q.act.ty, .string x.q.act.id, .string x.q.what.ty, .string x.q.what.id, .slice x.qa x.q.ctx.length x.qc] 39)).alloc (.cells #[.string ⟨#[65]⟩, .string ⟨#[]⟩] 34)).alloc (.cells #[.string ⟨#[97]⟩, .bool false, .int .i64 0, .string ⟨#[]⟩, .string ⟨#[]⟩, .string ⟨#[]⟩, .int .i64 0, .string ⟨#[]⟩, .string ⟨#[]⟩, .string ⟨#[]⟩, .int .i64 0, .string ⟨#[]⟩, .string ⟨#[]⟩, .string ⟨#[]⟩, .slice none 0 0] 47)).alloc (.cells #[.int .i64 6, .int .i64 0, .string ⟨#[]⟩, .string ⟨#[]⟩] 37)) := by (repeat (first | assumption | exact Below.refl _ _ | apply Below.drew | apply below_drewN | (refine Below.alloc ?_ (by first | exact Nat.le_refl _ | omega | (simp; done) | (simp; omega)) _)))
 have HN := Lib.hid hnw
 have B0 := Lib.hid ((((Blk.new w 39 #[.string x.q.who.ty, .string x.q.who.id, .string x.q.act.ty, .string x.q.act.id, .string x.q.what.ty, .string x.q.what.id, .slice x.qa x.q.ctx.length x.qc]).alloc (.cells #[.string ⟨#[65]⟩, .string ⟨#[]⟩] 34)).alloc (.cells #[.string ⟨#[97]⟩, .bool false, .int .i64 0, .string ⟨#[]⟩, .string ⟨#[]⟩, .string ⟨#[]⟩, .int .i64 0, .string ⟨#[]⟩, .string ⟨#[]⟩, .string ⟨#[]⟩, .int .i64 0, .string ⟨#[]⟩, .string ⟨#[]⟩, .string ⟨#[]⟩, .slice none 0 0] 47)).alloc (.cells #[.int .i64 6, .int .i64 0, .string ⟨#[]⟩, .string ⟨#[]⟩] 37))
 have h12 := (aErr_use (firstI_zero hk).2.1).1
 have HA := Lib.hid (fun W (hW : RowKit.Below w.heap.size w W) => slice_Pick_ok x ps A c W (hI.later hW) (hP.later hW) hk)
 have HK1 := Lib.hid (fun W (hW : RowKit.Below w.heap.size w W) => show Calls Tryz.prog 34 #[.slice x.Ea x.hs.length x.ec, .slice A ps.length c, .agg #[.string x.q.who.ty, .string x.q.who.id, .string x.q.act.ty, .string x.q.act.id, .string x.q.what.ty, .string x.q.what.id, .slice x.qa x.q.ctx.length x.qc]] W fun r w' => AnsBack W r w' (aOB x ps) (aBY x ps) (aWR x ps) 0 by
   have h := auth_Ask x ps A c W (hI.later hW) (hP.later hW)
   rw [hk] at h; exact h)
 have HK2 := Lib.hid (fun (ms : List PoM) (hm : ms.map PoM.p = (ps.filter (pickB x)).map PoM.p) W (hW : RowKit.Below w.heap.size w W) A' c' (hp : PosIn W A' ms) => show Calls Tryz.prog 38 #[.slice x.Ea x.hs.length x.ec, .slice A' ms.length c', .agg #[.string x.q.who.ty, .string x.q.who.id, .string x.q.act.ty, .string x.q.act.id, .string x.q.what.ty, .string x.q.what.id, .slice x.qa x.q.ctx.length x.qc]] W fun r w' => ∃ A2 c2 ms2, r = .returned (.tuple #[.slice A2 ms2.length c2, .nilIface]) ∧ ms2.length ≤ 9223372036854775807 ∧ ms2.map PoM.p = ms.map PoM.p ∧ PosIn w' A2 ms2 ∧ RowKit.Below W.heap.size W w' from
   (slice_Pick_ok x ms A' c' W (hI.later hW) hp (pick_ans hk hm).1).mono fun _ _ ⟨A2, c2, ms2, e, l1, l2, m, p, b⟩ => ⟨A2, c2, ms2, e, Nat.le_trans l1 l2, pick_again hm m, p, b⟩)
 have HO := Lib.hid (fun y (hy : y ∈ ps) W (hW : RowKit.Below w.heap.size w W) A' c' (hp : PosIn W A' [y]) => show Calls Tryz.prog 38 #[.slice x.Ea x.hs.length x.ec, .slice A' 1 c', .agg #[.string x.q.who.ty, .string x.q.who.id, .string x.q.act.ty, .string x.q.act.id, .string x.q.what.ty, .string x.q.what.id, .slice x.qa x.q.ctx.length x.qc]] W fun r w' => ∃ A2 c2, r = .returned (.tuple #[.slice A2 (if pickB x y = true then 1 else 0) c2, .nilIface]) ∧ RowKit.Below W.heap.size W w' from
   (slice_Pick_ok x [y] A' c' W (hI.later hW) hp (one_ok hk hy)).mono fun _ _ ⟨A2, c2, ms2, e, _, _, m, _, b⟩ => ⟨A2, c2, by
     have hl := congrArg List.length m
     rw [List.length_map, List.length_map, pick_one] at hl
     rw [e, hl], b⟩)
 have HNM := Lib.hid (fun ms hm => pick_names (x := x) (ps := ps) (ms := ms) hk hm)
 have HMT := Lib.hid (pick_none hk)
 generalize aOB x ps = OB at HK1
 generalize aBY x ps = BY at HK1 HMT
 generalize aWR x ps = WR at HK1 HMT
 have HE := Lib.hid (fun W (s : ByteArray) ss A1 c1 (hs : StrSl W W.heap.size A1 ss) (hl : ss.length ≤ 9223372036854775807) => law_among s ss A1 c1 W hs hl)
 unfold AnsBack at HK1
 rw [errV_zero] at HK1
 have HPS := Lib.hid hP
 obtain ⟨i0, hi, hi0, hi1, hi2⟩ := info_parts string_info
 clear hI hP hk hz hnw
 go_enter Tryz.func13, Tryz.ntmps13
 go_wp2_with fail
 refine HF.out.mono ?_
 rintro r w1 ⟨Af, cf, rfl, hb1⟩
 have B1 := Lib.hid (B0.out.below hb1 B0.out.lt)
 have H1 := Lib.hid (HN.out.trans (hb1.mono HN.out.size))
 have cc := B1.out.cell
 have cl := B1.out.lt
 clear hb1 HF HN B0
 go_wp2_with fail
 refine (HA.out w1 H1.out).mono ?_
 rintro r w2 ⟨Am, cm, ms, rfl, hcm, hcx, hm, hpm, hb2⟩
 have HM := Lib.hid hm
 have hml : ms.length ≤ 12 := by
   have h1 := congrArg List.length hm
   rw [List.length_map, List.length_map] at h1
   have h2 := List.length_filter_le (pickB x) ps
   omega
 have HPM := Lib.hid hpm
 have B2 := Lib.hid (B1.out.below hb2 B1.out.lt)
 have H2 := Lib.hid (H1.out.trans (hb2.mono H1.out.size))
 clear hb2 cc cl hm hpm B1 H1 HA
 have cc := B2.out.cell
 have cl := B2.out.lt
 go_wp2_with fail
 refine (HK1.out w2 H2.out).mono ?_
 rintro r w3 ⟨A3, c3, A4, c4, rfl, n1, n2, n3, n4, s1, s2, hb3⟩
 have hal : RowKit.Below w3.heap.size w3 (w3.alloc (.cells #[.bool OB, .slice A3 BY.length c3, .slice A4 WR.length c4] 70)) := by (repeat (first | assumption | exact Below.refl _ _ | apply Below.drew | apply below_drewN | (refine Below.alloc ?_ (by first | exact Nat.le_refl _ | omega | (simp; done) | (simp; omega)) _)))
 have B3 := Lib.hid ((B2.out.below hb3 B2.out.lt).alloc (.cells #[.bool OB, .slice A3 BY.length c3, .slice A4 WR.length c4] 70))
 have D3 := Lib.hid (Blk.new w3 70 #[.bool OB, .slice A3 BY.length c3, .slice A4 WR.length c4])
 have S3 := Lib.hid ((s1.below hal).more hal.size)
 have S4 := Lib.hid ((s2.below hal).more hal.size)
 have H3 := Lib.hid ((H2.out.trans (hb3.mono H2.out.size)).trans (hal.mono (H2.out.trans (hb3.mono H2.out.size)).size))
 have HPM3 := Lib.hid ((HPM.out.later hb3).later hal)
 have hl1 : BY.length ≤ 9223372036854775807 := by omega
 have hl2 : WR.length ≤ 9223372036854775807 := by omega
 clear hb3 s1 s2 hal cc cl B2 H2 HK1 HPM n1 n2 n3 n4
 have cc := B3.out.cell
 have cl := B3.out.lt
 go_wp2_with fail
 refine (HK2.out ms HM.out _ H3.out Am cm HPM3.out).mono ?_
 rintro r w5 ⟨A5, c5, ms2, rfl, hl5, hm5, hp5, hb5⟩
 have D5 := Lib.hid (D3.out.below hb5 D3.out.lt)
 have B5 := Lib.hid (B3.out.below hb5 B3.out.lt)
 have S5 := Lib.hid ((S3.out.below hb5).more hb5.size)
 have S6 := Lib.hid ((S4.out.below hb5).more hb5.size)
 have H5 := Lib.hid (H3.out.trans (hb5.mono H3.out.size))
 have HPM5 := Lib.hid (HPM3.out.later hb5)
 have HM5 := Lib.hid hm5
 have HP5 := Lib.hid hp5
 clear hb5 hm5 hp5 cc cl B3 H3 HK2 HPM3 S3 S4 D3
 go_wp2_with fail
 refine (same_Policies ms2 ms HM5.out A5 Am c5 cm _ HP5.out HPM5.out hl5).mono ?_
 rintro r w6 ⟨rfl, hb6⟩
 have D6 := Lib.hid (D5.out.below hb6 D5.out.lt)
 have B6 := Lib.hid (B5.out.below hb6 B5.out.lt)
 have S7 := Lib.hid ((S5.out.below hb6).more hb6.size)
 have S8 := Lib.hid ((S6.out.below hb6).more hb6.size)
 have H6 := Lib.hid (H5.out.trans (hb6.mono H5.out.size))
 have HPM6 := Lib.hid (HPM5.out.later hb6)
 clear hb6 B5 H5 HPM5 S5 S6 D5 HM5 HP5
 go_wp2_with fail
 have h36 : w3.heap.size < w6.heap.size := D6.out.lt
 go_loopw [17, 18] (fun pv kk wr => ∃ k : Nat, kk = .int .i64 k ∧ k ≤ ms.length ∧ Hid (wr.ownsRow w6.heap.size 9 1 pv k (((ms.take k).map nmQ).map encStr)) ∧ RowKit.Below w6.heap.size w6 wr) (fun _ kk _ => ms.length - (intOf kk).toNat)
 case atStart => exact ⟨0, rfl, by omega, World.ownsRow_nil _ _ _ _, RowKit.Below.refl _ _⟩
 case round =>
   obtain ⟨k, rfl, hkm, HR, hbr⟩ := hrel
   obtain ⟨Ap, cp, hpv, -⟩ := own_sl HR.out
   subst hpv
   by_cases hlt : k < ms.length
   · obtain ⟨y, hy⟩ : ∃ y, ms[k]? = some y := ⟨_, List.getElem?_eq_getElem hlt⟩
     obtain ⟨b, o, rfl, hb, d0, -⟩ := poSl_cells (HPM6.out.later hbr).sl hy
     have HX : Hid (RowKit.Below wr.heap.size wr (wr.alloc (.cells #[.string y.p.name] 9))) := by show RowKit.Below _ _ _; (repeat (first | assumption | exact Below.refl _ _ | apply Below.drew | apply below_drewN | (refine Below.alloc ?_ (by first | exact Nat.le_refl _ | omega | (simp; done) | (simp; omega)) _)))
     have HRX := Lib.hid (own_keep2 HR.out HX.out)
     have HEN : Hid (Value.string y.p.name = encStr (nmQ y)) := (encStr_of _).symm
     have HTK : Hid (((ms.take k).map nmQ).map encStr ++ [encStr (nmQ y)] = ((ms.take (k + 1)).map nmQ).map encStr) := by
       show _ = _
       rw [List.take_add_one, hy]; simp
     have hzr := hbr.size
     clear hy HR
     go_wp2_with (at_builtin; refine wpList_append_own_at _ rfl (.tmp 92) (.tmp 98) 23 rfl w6.heap.size 9 i0 _ 1 16 Tryz.underlying23 hi hi0 hi1 hi2 rfl (by omega) _ k (((ms.take k).map nmQ).map encStr) rfl HRX.out ⟨wr.heap.size, 0, none⟩ 1 1 [.string y.p.name] rfl rfl (cell_one_new _ _ _) (by simp [Value.oneCell']) (by unfold maxLen; omega) (by omega) (by simp; omega) ?_; intro v7 w7 hown7 hgrow7 _ hloc7; obtain ⟨A7, c7, hv7, -⟩ := own_sl hown7; subst hv7; rw [HEN.out, HTK.out] at hown7; have HR7 := Lib.hid hown7; have HB7 : Hid (RowKit.Below w6.heap.size w6 w7) := (hbr.trans (HX.out.mono hbr.size)).grown hgrow7 (by have := hbr.size; simp; omega) (fun q hq => by have := (own_lt HRX.out hq).1; omega); clear hown7 hgrow7 hloc7)
     exact ⟨⟨k + 1, by go_num, by omega, HR7, HB7.out⟩, by simp [intOf]; omega⟩
   · obtain rfl : k = ms.length := by omega
     rw [List.take_length] at HR
     obtain ⟨A8, c8, e8, _, _, hs8⟩ := own_strs2 HR.out (by simp)
     injection e8 with e81 e82 e83
     clear e82
     subst e81 e83
     have HS8 := Lib.hid hs8
     obtain ⟨w8, rfl⟩ : ∃ w8, w8 = wr := ⟨_, rfl⟩
     have D8 := Lib.hid (D6.out.below hbr D6.out.lt)
     have B8 := Lib.hid (B6.out.below hbr B6.out.lt)
     have T7 := Lib.hid ((S7.out.below hbr).more hbr.size)
     have T8 := Lib.hid ((S8.out.below hbr).more hbr.size)
     have H8 := Lib.hid (H6.out.trans (hbr.mono H6.out.size))
     have HN8 := Lib.hid (HNM.out ms HM.out)
     have HL8 : Hid ((ms.map nmQ).length = ms.length) := by show _ = _; simp
     generalize ms.map nmQ = SS at HS8 HN8 HL8
     have hnl : ¬ ((ms.length : Int) < (ms.length : Int)) := by omega
     clear hs8 HR hbr hlt D6 B6 S7 S8 H6 HPM6 HNM HM
     go_wp2_with fail
     go_loopw [19] (fun kk wr => ∃ k : Nat, kk = .int .i64 k ∧ k ≤ ps.length ∧ RowKit.Below w8.heap.size w8 wr) (fun kk _ => ps.length - (intOf kk).toNat)
     case atStart => exact ⟨0, rfl, by omega, RowKit.Below.refl _ _⟩
     case round =>
       obtain ⟨k, rfl, hk, hbr⟩ := hrel
       have hzr := hbr.size
       have Hwr := Lib.hid (H8.out.trans (hbr.mono H8.out.size))
       by_cases hlt : k < ps.length
       case neg =>
         go_wp2_with fail
         go_ret
         exact ⟨rfl, Hwr.out⟩
       obtain ⟨y, hy⟩ : ∃ y, ps[k]? = some y := ⟨_, List.getElem?_eq_getElem hlt⟩
       have hym := List.mem_of_getElem? hy
       obtain ⟨b, o, hA, hb, d0, -⟩ := poSl_cells (HPS.out.later Hwr.out).sl hy
       subst hA
       have HON := Lib.hid ((HPS.out.later Hwr.out).one hy)
       have i1 : (0 : Int) ≤ (k : Int) := by omega
       have i2 : (k : Int) < (ps.length : Int) := by omega
       have HOy := Lib.hid (HO.out y hym)
       have HNy := HN8.out y hym
       have HMy := HMT.out y hym
       have hwp : IntKind.i64.wrap ((k : Int) + 1) = (k : Int) + 1 := by rw [IntKind.wrap_i64]; omega
       have q : ∀ (W : World), (Instr.slice 67 (.slice (some ⟨b, o, none⟩) ps.length c) (some (.int .i64 (k : Int))) (some (.int .i64 ((k : Int) + 1))) none).run Tryz.prog W = .ok (.slice (some ⟨b, o + k * 15, none⟩) 1 (c - k)) W := by
         intro W
         go_simp
         rw [if_pos (show (0 : Int) ≤ (k : Int) + 1 ∧ (k : Int) + 1 ≤ (c : Int) by omega), if_neg (show ¬ c = k by omega)]
       have hsl : SS.length ≤ 9223372036854775807 := by rw [HL8.out]; omega
       have HE1 := Lib.hid (fun W (hs : StrSl W W.heap.size Ap SS) => HE.out W y.p.name SS Ap cp hs hsl)
       rw [HL8.out, HNy] at HE1
       have D9 := Lib.hid (D8.out.below hbr D8.out.lt)
       have B9 := Lib.hid (B8.out.below hbr B8.out.lt)
       have X7 := Lib.hid ((T7.out.below hbr).more hbr.size)
       have X8 := Lib.hid ((T8.out.below hbr).more hbr.size)
       have XS := Lib.hid ((HS8.out.below hbr).more hbr.size)
       have cc := B9.out.cell
       have cl := B9.out.lt
       generalize pickB x y = pb at HOy HMy HE1
       clear HNy hy hym HO HN8 HMT HPS D8 B8 T7 T8 HS8 hsl hlt
       cases pb with
       | true =>
         rw [if_pos rfl] at HOy
         clear HMy HE
         go_wp2_with fail
         have HS0 : Hid (Rq7 x w.heap.size wr wr.drew) := Lib.hid (Rq7.of B9.out ((RowKit.Below.refl _ _).drew))
         go_cut [21, 22] from 111 to 121 (fun ov ev wx => ∃ A9 c9, ov = .slice A9 1 c9 ∧ ev = .nilIface ∧ Hid (RowKit.Below wr.heap.size wr wx))
         case first =>
           go_region_held3 (fun W => W.cell? ⟨w.heap.size, 0, none⟩ = some (.string x.q.who.ty) ∧ W.cell? ⟨w.heap.size, 1, none⟩ = some (.string x.q.who.id) ∧ W.cell? ⟨w.heap.size, 2, none⟩ = some (.string x.q.act.ty) ∧ W.cell? ⟨w.heap.size, 3, none⟩ = some (.string x.q.act.id) ∧ W.cell? ⟨w.heap.size, 4, none⟩ = some (.string x.q.what.ty) ∧ W.cell? ⟨w.heap.size, 5, none⟩ = some (.string x.q.what.id) ∧ W.cell? ⟨w.heap.size, 6, none⟩ = some (.slice x.qa x.q.ctx.length x.qc) ∧ RowKit.Below wr.heap.size wr W) (first | exact HS0.out | exact Rq7.of B9.out (by assumption) | exact Rq7.of B9.out hbw5)
             ((go_at_call 38; refine (HOy.out _ (Hwr.out.trans ((Rq7.b (x := x) (b := w.heap.size) (w1 := wr) (by assumption)).mono Hwr.out.size)) (some ⟨b, o + k * 15, none⟩) (c - k) (HON.out.later (Rq7.b (x := x) (b := w.heap.size) (w1 := wr) (by assumption)))).mono ?_; rintro r w5 ⟨A9, c9, rfl, hb5⟩; have hbw5 : RowKit.Below wr.heap.size wr w5 := (Rq7.b (x := x) (b := w.heap.size) (w1 := wr) (by assumption)).trans (hb5.mono (Rq7.b (x := x) (b := w.heap.size) (w1 := wr) (by assumption)).size)))
           all_goals
             go_wp2_with fail
             go_meet
             exact ⟨A9, c9, rfl, rfl, hbw5⟩
         obtain ⟨A9, c9, rfl, rfl, HW10⟩ := hcut
         obtain ⟨w10, rfl⟩ : ∃ w10, w10 = wc := ⟨_, rfl⟩
         have hw10 := HW10.out
         have Y10 := Lib.hid ((XS.out.below hw10).more hw10.size)
         have HB10 := Lib.hid (hbr.trans (hw10.mono hbr.size))
         clear HW10 hw10 cc cl XS X7 X8 D9 HON HOy q B9 HS0
         go_wp2_with fail
         refine (HE1.out _ Y10.out).mono ?_
         rintro r w11 ⟨rfl, hw11⟩
         subst hw11
         go_wp2_with fail
         exact ⟨⟨k + 1, by go_num, by omega, HB10.out⟩, by simp [intOf]; omega⟩
       | false =>
         obtain ⟨hby, hwr⟩ := HMy rfl
         rw [if_neg (by decide)] at HOy
         have HE2 := Lib.hid (fun W (hs : StrSl W W.heap.size A3 BY) => HE.out W y.p.name BY A3 c3 hs hl1)
         have HE3 := Lib.hid (fun W (hs : StrSl W W.heap.size A4 WR) => HE.out W y.p.name WR A4 c4 hs hl2)
         rw [hby] at HE2
         rw [hwr] at HE3
         clear HMy HE hby hwr
         go_wp2_with fail
         have HS0 : Hid (Rq7 x w.heap.size wr wr.drew) := Lib.hid (Rq7.of B9.out ((RowKit.Below.refl _ _).drew))
         go_cut [21, 22] from 111 to 121 (fun ov ev wx => ∃ A9 c9, ov = .slice A9 0 c9 ∧ ev = .nilIface ∧ Hid (RowKit.Below wr.heap.size wr wx))
         case first =>
           go_region_held3 (fun W => W.cell? ⟨w.heap.size, 0, none⟩ = some (.string x.q.who.ty) ∧ W.cell? ⟨w.heap.size, 1, none⟩ = some (.string x.q.who.id) ∧ W.cell? ⟨w.heap.size, 2, none⟩ = some (.string x.q.act.ty) ∧ W.cell? ⟨w.heap.size, 3, none⟩ = some (.string x.q.act.id) ∧ W.cell? ⟨w.heap.size, 4, none⟩ = some (.string x.q.what.ty) ∧ W.cell? ⟨w.heap.size, 5, none⟩ = some (.string x.q.what.id) ∧ W.cell? ⟨w.heap.size, 6, none⟩ = some (.slice x.qa x.q.ctx.length x.qc) ∧ RowKit.Below wr.heap.size wr W) (first | exact HS0.out | exact Rq7.of B9.out (by assumption) | exact Rq7.of B9.out hbw5)
             ((go_at_call 38; refine (HOy.out _ (Hwr.out.trans ((Rq7.b (x := x) (b := w.heap.size) (w1 := wr) (by assumption)).mono Hwr.out.size)) (some ⟨b, o + k * 15, none⟩) (c - k) (HON.out.later (Rq7.b (x := x) (b := w.heap.size) (w1 := wr) (by assumption)))).mono ?_; rintro r w5 ⟨A9, c9, rfl, hb5⟩; have hbw5 : RowKit.Below wr.heap.size wr w5 := (Rq7.b (x := x) (b := w.heap.size) (w1 := wr) (by assumption)).trans (hb5.mono (Rq7.b (x := x) (b := w.heap.size) (w1 := wr) (by assumption)).size)))
           all_goals
             go_wp2_with fail
             go_meet
             exact ⟨A9, c9, rfl, rfl, hbw5⟩
         obtain ⟨A9, c9, rfl, rfl, HW10⟩ := hcut
         obtain ⟨w10, rfl⟩ : ∃ w10, w10 = wc := ⟨_, rfl⟩
         have hw10 := HW10.out
         have Y10 := Lib.hid ((XS.out.below hw10).more hw10.size)
         have Z7 := Lib.hid ((X7.out.below hw10).more hw10.size)
         have Z8 := Lib.hid ((X8.out.below hw10).more hw10.size)
         have D10 := D9.out.below hw10 D9.out.lt
         have f1 : w10.cell? ⟨w3.heap.size, 1, none⟩ = some (.slice A3 BY.length c3) := D10.cell 1
         have f2 : w10.cell? ⟨w3.heap.size, 2, none⟩ = some (.slice A4 WR.length c4) := D10.cell 2
         have fl := D10.lt
         have HB10 := Lib.hid (hbr.trans (hw10.mono hbr.size))
         clear HW10 hw10 cc cl XS X7 X8 D9 D10 HON HOy q B9 HS0
         go_wp2_with fail
         refine (HE1.out _ Y10.out).mono ?_
         rintro r w11 ⟨rfl, hw11⟩
         subst hw11
         go_wp2_with fail
         refine (HE2.out _ Z7.out).mono ?_
         rintro r w11 ⟨rfl, hw11⟩
         subst hw11
         go_wp2_with fail
         refine (HE3.out _ Z8.out).mono ?_
         rintro r w11 ⟨rfl, hw11⟩
         subst hw11
         go_wp2_with fail
         exact ⟨⟨k + 1, by go_num, by omega, HB10.out⟩, by simp [intOf]; omega⟩
theorem law_sagain (x : Aq) (ps : List PoM) (A : Option Addr) (c : Nat) (w : World) (hI : AqIn x w) (hP : PosIn w A ps) (hle : ps.length ≤ c) (hmx : c ≤ 9223372036854775807) :
   Calls Tryz.prog 13 #[.slice x.Ea x.hs.length x.ec, .slice A ps.length c, .agg #[.string x.q.who.ty, .string x.q.who.id, .string x.q.act.ty, .string x.q.act.id, .string x.q.what.ty, .string x.q.what.id, .slice x.qa x.q.ctx.length x.qc]] w fun r w' => r = .returned (.bool true) ∧ RowKit.Below w.heap.size w w' := by
 by_cases hk : askErr x ps = 0
 · exact law_sg_ok x ps A c w hI hP hle hmx hk
 · exact law_sg_bad x ps A c w hI hP hk
end Go.Proofs.YtpheiojmcafolaaGreatDoor
