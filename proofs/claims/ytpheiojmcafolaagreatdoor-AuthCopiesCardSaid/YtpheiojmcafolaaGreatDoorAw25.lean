/-
  THE WALK of the law AuthCopies (printed by mklawco.py).
-/
import Derived.Test.YtpheiojmcafolaaGreatDoorAw24
import Derived.BigQuiet
namespace Go.Proofs.YtpheiojmcafolaaGreatDoor
set_option maxRecDepth 100000
open Go.RowKit Go.Sort
theorem cell_keep {w w' : World} {b i : Nat} {v : Value} (h : RowKit.Below w.heap.size w w') (hb : b < w.heap.size) (hc : w.cell? ⟨b, i, none⟩ = some v) : w'.cell? ⟨b, i, none⟩ = some v := (h.cell (p := ⟨b, i, none⟩) hb).trans hc
theorem str_drewN {w : World} {A : Option Addr} {ss : List (List UInt8)} (h : StrSl w w.heap.size A ss) (n : Nat) : StrSl (w.drewN n) (w.drewN n).heap.size A ss := h
def byName (z : PoM) (s : ByteArray) : PoM := ⟨⟨s, z.p.forbid, z.p.who, z.p.act, z.p.what, z.p.conds⟩, z.cs, z.A, z.c⟩
theorem byName_ok {z : PoM} {s : ByteArray} {w : World} {B : Nat} (h : PoMOk w B z) (hs : s.size ≤ 140737488351232) : PoMOk w B (byName z s) :=
 ⟨h.same, h.le, h.max, ⟨hs, h.z.2⟩, h.at_, h.ni⟩
theorem vt_name {es : List En} {q : Rq} {z : PoM} {s : ByteArray} (h1 : (exprP z.p).2 = 0) (h2 : (exprP (byName z s).p).2 = 0) : vtQ es q (byName z s) = vtQ es q z := by
 obtain ⟨_, e1, _⟩ := exprP_tree h1
 obtain ⟨_, e2, _⟩ := exprP_tree h2
 unfold vtQ
 rw [e1, e2]
 rfl
theorem copies_law (x : Aq) (ps : List PoM) (z : PoM) (s : ByteArray) (hz : z ∈ ps) (h1 : askErr x ps = 0) (h2 : askErr x (ps ++ [byName z s]) = 0) :
   aOB x ps = aOB x (ps ++ [byName z s]) ∧ (aBY x ps).contains z.p.name.toList = (aBY x (ps ++ [byName z s])).contains s.toList ∧ (aWR x ps).contains z.p.name.toList = (aWR x (ps ++ [byName z s])).contains s.toList := by
 obtain ⟨-, hall, hnd⟩ := aErr_use (firstI_zero h2).2.1
 have hv := vt_name (es := x.es) (q := x.q) (hall z (by simp [hz])).2.1 (hall (byName z s) (by simp)).2.1
 obtain ⟨g1, g2, g3⟩ := copies (nm := nmQ) (fb := fbQ) (vt := vtQ x.es x.q) (p := z) (q := byName z s) hnd hz hv rfl
 unfold aOB aBY aWR
 rw [if_pos h1, if_pos h2, if_pos h1, if_pos h2, if_pos h1, if_pos h2]
 refine ⟨g1.symm, ?_, ?_⟩
 · rw [Bool.eq_iff_iff, List.contains_iff_mem, List.contains_iff_mem]; exact g2
 · rw [Bool.eq_iff_iff, List.contains_iff_mem, List.contains_iff_mem]; exact g3
set_option maxHeartbeats 6400000 in
theorem law_copies_no (x : Aq) (ps : List PoM) (A : Option Addr) (c : Nat) (k : Int) (s : ByteArray) (w : World) (hI : AqIn x w) (hk : ¬ (0 ≤ k ∧ k < ps.length)) :
   Calls Tryz.prog 11 #[.slice x.Ea x.hs.length x.ec, .slice A ps.length c, .agg #[.string x.q.who.ty, .string x.q.who.id, .string x.q.act.ty, .string x.q.act.id, .string x.q.what.ty, .string x.q.what.id, .slice x.qa x.q.ctx.length x.qc], .int .i64 k, .string s] w fun r w' => r = .returned (.bool true) ∧ RowKit.Below w.heap.size w w' := by
 have h0 : RowKit.Below w.heap.size w (w.alloc (.cells #[.string x.q.who.ty, .string x.q.who.id, .string x.q.act.ty, .string x.q.act.id, .string x.q.what.ty, .string x.q.what.id, .slice x.qa x.q.ctx.length x.qc] 39)) := by (repeat (first | assumption | exact Below.refl _ _ | apply Below.drew | apply below_drewN | (refine Below.alloc ?_ (by first | exact Nat.le_refl _ | omega | (simp; done) | (simp; omega)) _)))
 have H0 := Lib.hid h0
 have HP := Lib.hid (law_permitted (w.alloc (.cells #[.string x.q.who.ty, .string x.q.who.id, .string x.q.act.ty, .string x.q.act.id, .string x.q.what.ty, .string x.q.what.id, .slice x.qa x.q.ctx.length x.qc] 39)) (hI.err.below h0 hI.err.lt))
 have hl : decide (k < 0) = true ∨ (decide (k < 0) = false ∧ decide ((ps.length : Int) ≤ k) = true) := by
   by_cases h : k < 0
   · exact .inl (by simpa using h)
   · refine .inr ⟨by simpa using h, ?_⟩
     simp; omega
 clear hI h0 hk
 rcases hl with hl | ⟨hl, hg⟩
 all_goals
   go_enter Tryz.func11, Tryz.ntmps11
   go_wp2_with fail
   refine HP.out.mono ?_
   rintro r w1 ⟨rfl, hb1⟩
   have H1 := Lib.hid (H0.out.trans (hb1.mono H0.out.size))
   clear hb1
   go_wp2_with fail
   go_ret
   exact ⟨rfl, H1.out⟩
set_option maxHeartbeats 25600000 in
theorem law_copies_ok (x : Aq) (ps : List PoM) (A : Option Addr) (c : Nat) (k : Nat) (s : ByteArray) (w : World) (hI : AqIn x w) (hP : PosIn w A ps) (hs : s.size ≤ 140737488351232) (hn : ps.length * 216 ≤ reachBytes) (z : PoM) (hz : ps[k]? = some z) :
   Calls Tryz.prog 11 #[.slice x.Ea x.hs.length x.ec, .slice A ps.length c, .agg #[.string x.q.who.ty, .string x.q.who.id, .string x.q.act.ty, .string x.q.act.id, .string x.q.what.ty, .string x.q.what.id, .slice x.qa x.q.ctx.length x.qc], .int .i64 k, .string s] w fun r w' => r = .returned (.bool true) ∧ RowKit.Below w.heap.size w w' := by
 have hzm := List.mem_of_getElem? hz
 have hlt : k < ps.length := (List.getElem?_eq_some_iff.1 hz).1
 have B0 := Lib.hid (Blk.new w 39 #[.string x.q.who.ty, .string x.q.who.id, .string x.q.act.ty, .string x.q.act.id, .string x.q.what.ty, .string x.q.what.id, .slice x.qa x.q.ctx.length x.qc])
 have h0 : RowKit.Below w.heap.size w (w.alloc (.cells #[.string x.q.who.ty, .string x.q.who.id, .string x.q.act.ty, .string x.q.act.id, .string x.q.what.ty, .string x.q.what.id, .slice x.qa x.q.ctx.length x.qc] 39)) := by (repeat (first | assumption | exact Below.refl _ _ | apply Below.drew | apply below_drewN | (refine Below.alloc ?_ (by first | exact Nat.le_refl _ | omega | (simp; done) | (simp; omega)) _)))
 have H0 := Lib.hid h0
 have HP := Lib.hid (law_permitted (w.alloc (.cells #[.string x.q.who.ty, .string x.q.who.id, .string x.q.act.ty, .string x.q.act.id, .string x.q.what.ty, .string x.q.what.id, .slice x.qa x.q.ctx.length x.qc] 39)) (hI.err.below h0 hI.err.lt))
 have HPW := Lib.hid hP
 obtain ⟨y, hy⟩ : ∃ y, y = byName z s := ⟨_, rfl⟩
 have HA1 := Lib.hid (fun W (hW : RowKit.Below w.heap.size w W) => auth_Ask x ps A c W (hI.later hW) (hP.later hW))
 have HA2 := Lib.hid (fun W (hW : RowKit.Below w.heap.size w W) A' c' (hp : PosIn W A' (ps ++ [y])) => auth_Ask x (ps ++ [y]) A' c' W (hI.later hW) hp)
 have HEA := Lib.hid (fun W (hW : RowKit.Below w.heap.size w W) => show ∀ q ∈ ps ++ [y], PoMOk W W.heap.size q from fun q hq => by
   rcases List.mem_append.1 hq with hq | hq
   · exact (hP.later hW).each q hq
   · rw [List.mem_singleton] at hq; rw [hq, hy]; exact byName_ok ((hP.later hW).each z hzm) hs)
 have HE := Lib.hid (fun W (t : ByteArray) ss A1 c1 (h : StrSl W W.heap.size A1 ss) (hl : ss.length ≤ 9223372036854775807) => law_among t ss A1 c1 W h hl)
 have HLW := Lib.hid (copies_law x ps z s hzm)
 unfold AnsBack at HA1 HA2
 rw [show (ps ++ [y]).length = ps.length + 1 by simp] at HA2
 rw [← hy] at HLW
 have hyn : y.p.name = s := by rw [hy]; rfl
 have hyc : (#[.string y.p.name, .bool y.p.forbid, .int .i64 y.p.who.op, .string y.p.who.ty, .string y.p.who.uid.ty, .string y.p.who.uid.id, .int .i64 y.p.act.op, .string y.p.act.ty, .string y.p.act.uid.ty, .string y.p.act.uid.id, .int .i64 y.p.what.op, .string y.p.what.ty, .string y.p.what.uid.ty, .string y.p.what.uid.id, .slice y.A y.cs.length y.c] : Array Value) = #[.string s, .bool z.p.forbid, .int .i64 z.p.who.op, .string z.p.who.ty, .string z.p.who.uid.ty, .string z.p.who.uid.id, .int .i64 z.p.act.op, .string z.p.act.ty, .string z.p.act.uid.ty, .string z.p.act.uid.id, .int .i64 z.p.what.op, .string z.p.what.ty, .string z.p.what.uid.ty, .string z.p.what.uid.id, .slice z.A z.cs.length z.c] := by rw [hy]; rfl
 have HYC := Lib.hid hyc
 generalize askErr x ps = k1 at HA1 HLW
 generalize askErr x (ps ++ [y]) = k2 at HA2 HLW
 generalize aOB x ps = OB1 at HA1 HLW
 generalize aOB x (ps ++ [y]) = OB2 at HA2 HLW
 generalize aBY x ps = BY1 at HA1 HLW
 generalize aBY x (ps ++ [y]) = BY2 at HA2 HLW
 generalize aWR x ps = WR1 at HA1 HLW
 generalize aWR x (ps ++ [y]) = WR2 at HA2 HLW
 have i1 : (0 : Int) ≤ (k : Int) := by omega
 have i2 : (k : Int) < (ps.length : Int) := by omega
 have t1 : decide ((k : Int) < 0) = false := by simp
 have t2 : decide ((ps.length : Int) ≤ (k : Int)) = false := by simp; omega
 have t3 : decide (ps.length ≤ k) = false := by simp; omega
 have HZ := Lib.hid hz
 clear hI hP h0 hy hyn hyc hz hs hzm
 go_enter Tryz.func11, Tryz.ntmps11
 go_wp2_with fail
 refine HP.out.mono ?_
 rintro r w1 ⟨rfl, hb1⟩
 have C0 := Lib.hid (B0.out.below hb1 B0.out.lt)
 have H1 := Lib.hid (H0.out.trans (hb1.mono H0.out.size))
 obtain ⟨b, o, hA, hb, d0, d1, d2, d3, d4, d5, d6, d7, d8, d9, d10, d11, d12, d13, d14⟩ := poSl_cells (HPW.out.later H1.out).sl HZ.out
 subst hA
 clear hb1 B0 H0 HP
 go_upto_region 8 with fail
 have hb1 : b ≠ w1.heap.size := by omega
 have hbw : b < w1.heap.size := hb
 rw [← HYC.out]
 have C1 := Lib.hid (Blk.new w1 47 #[.string y.p.name, .bool y.p.forbid, .int .i64 y.p.who.op, .string y.p.who.ty, .string y.p.who.uid.ty, .string y.p.who.uid.id, .int .i64 y.p.act.op, .string y.p.act.ty, .string y.p.act.uid.ty, .string y.p.act.uid.id, .int .i64 y.p.what.op, .string y.p.what.ty, .string y.p.what.uid.ty, .string y.p.what.uid.id, .slice y.A y.cs.length y.c])
 have hww : RowKit.Below w1.heap.size w1 (w1.alloc (.cells #[.string y.p.name, .bool y.p.forbid, .int .i64 y.p.who.op, .string y.p.who.ty, .string y.p.who.uid.ty, .string y.p.who.uid.id, .int .i64 y.p.act.op, .string y.p.act.ty, .string y.p.act.uid.ty, .string y.p.act.uid.id, .int .i64 y.p.what.op, .string y.p.what.ty, .string y.p.what.uid.ty, .string y.p.what.uid.id, .slice y.A y.cs.length y.c] 47)) := by (repeat (first | assumption | exact Below.refl _ _ | apply Below.drew | apply below_drewN | (refine Below.alloc ?_ (by first | exact Nat.le_refl _ | omega | (simp; done) | (simp; omega)) _)))
 have C0' := Lib.hid (C0.out.alloc (.cells #[.string y.p.name, .bool y.p.forbid, .int .i64 y.p.who.op, .string y.p.who.ty, .string y.p.who.uid.ty, .string y.p.who.uid.id, .int .i64 y.p.act.op, .string y.p.act.ty, .string y.p.act.uid.ty, .string y.p.act.uid.id, .int .i64 y.p.what.op, .string y.p.what.ty, .string y.p.what.uid.ty, .string y.p.what.uid.id, .slice y.A y.cs.length y.c] 47))
 have H2 := Lib.hid (H1.out.trans (hww.mono H1.out.size))
 have e0 := cell_keep hww hb d0
 clear d0 d1 d2 d3 d4 d5 d6 d7 d8 d9 d10 d11 d12 d13 d14 HYC
 generalize hw2 : w1.alloc (.cells #[.string y.p.name, .bool y.p.forbid, .int .i64 y.p.who.op, .string y.p.who.ty, .string y.p.who.uid.ty, .string y.p.who.uid.id, .int .i64 y.p.act.op, .string y.p.act.ty, .string y.p.act.uid.ty, .string y.p.act.uid.id, .int .i64 y.p.what.op, .string y.p.what.ty, .string y.p.what.uid.ty, .string y.p.what.uid.id, .slice y.A y.cs.length y.c] 47) = w2 at C1 hww C0' H2 e0 ⊢
 have hlt2 : w1.heap.size < w2.heap.size := C1.out.lt
 clear hw2 C0
 have hbs := bs_pol0
 have HPL : Hid (PoSl w2 w2.heap.size (some ⟨b, o, none⟩) ps) := Lib.hid (HPW.out.later H2.out).sl
 have HS0 : Hid (Po15 y w1.heap.size w2 w2.drew) := Lib.hid (Po15.of C1.out ((RowKit.Below.refl _ _).drew))
 go_cut [13] from 35 to 40 (fun mv wx => ∃ A3 c3, mv = .slice A3 (ps.length + 1) c3 ∧ Hid (PoRow (ps ++ [y]) w2 mv wx))
 case first =>
   go_region_held3 (fun W => W.cell? ⟨w1.heap.size, 0, none⟩ = some (.string y.p.name) ∧ W.cell? ⟨w1.heap.size, 1, none⟩ = some (.bool y.p.forbid) ∧ W.cell? ⟨w1.heap.size, 2, none⟩ = some (.int .i64 y.p.who.op) ∧ W.cell? ⟨w1.heap.size, 3, none⟩ = some (.string y.p.who.ty) ∧ W.cell? ⟨w1.heap.size, 4, none⟩ = some (.string y.p.who.uid.ty) ∧ W.cell? ⟨w1.heap.size, 5, none⟩ = some (.string y.p.who.uid.id) ∧ W.cell? ⟨w1.heap.size, 6, none⟩ = some (.int .i64 y.p.act.op) ∧ W.cell? ⟨w1.heap.size, 7, none⟩ = some (.string y.p.act.ty) ∧ W.cell? ⟨w1.heap.size, 8, none⟩ = some (.string y.p.act.uid.ty) ∧ W.cell? ⟨w1.heap.size, 9, none⟩ = some (.string y.p.act.uid.id) ∧ W.cell? ⟨w1.heap.size, 10, none⟩ = some (.int .i64 y.p.what.op) ∧ W.cell? ⟨w1.heap.size, 11, none⟩ = some (.string y.p.what.ty) ∧ W.cell? ⟨w1.heap.size, 12, none⟩ = some (.string y.p.what.uid.ty) ∧ W.cell? ⟨w1.heap.size, 13, none⟩ = some (.string y.p.what.uid.id) ∧ W.cell? ⟨w1.heap.size, 14, none⟩ = some (.slice y.A y.cs.length y.c) ∧ RowKit.Below w2.heap.size w2 W) (first | exact HS0.out | exact Po15.next (by assumption) C1.out _ | exact Po15.of C1.out (PoRow.below (by assumption)))
     (first
       | (refine step_append_run (by rfl) _ _ _ (by rfl) _ _ (by rfl) (by rfl) _ (app_pol0 (w1 := w2) (ps := ps) (blk_new (by simp) _ _) (by simp) (Po15.b (by assumption)) HPL.out hn) ?_; rintro v6 w6 ⟨hr6, hk6⟩)
       | (refine step_append_run (by rfl) _ _ _ (by rfl) _ _ (by rfl) (by rfl) _ (app_pol0 (w1 := w2) (ps := ps) ((blk_new (by simp) _ _).alloc _) (by simp) (Po15.b (by assumption)) HPL.out hn) ?_; rintro v6 w6 ⟨hr6, hk6⟩)
       | (refine step_append_run (by rfl) _ _ _ (by rfl) _ _ (by rfl) (by rfl) _ (app_pol1 (y := y) hr6 _ (RowKit.Below.alloc (RowKit.Below.refl _ _) (Nat.le_refl _) _) (blk_new (by simp) _ _) hn) ?_; rintro v7 w7 hr7)
       | (refine step_append_run (by rfl) _ _ _ (by rfl) _ _ (by rfl) (by rfl) _ (app_pol1 (y := y) hr6 _ (RowKit.Below.refl _ _) (hk6 _ _ _ (blk_new (by simp) _ _) rfl) hn) ?_; rintro v7 w7 hr7)
       | (refine step_append_run (by rfl) _ _ _ (by rfl) _ _ (by rfl) (by rfl) _ (app_pol1 (y := y) hr6 _ (RowKit.Below.refl _ _) (hk6 _ _ _ ((blk_new (by simp) _ _).alloc _) rfl) hn) ?_; rintro v7 w7 hr7))
   all_goals
     go_wp2_with fail
     go_meet
     obtain ⟨-, As, cs, hsv, -⟩ := own_formG pom_ok hr7.own
     exact ⟨As, cs, by rw [hsv]; simp, Lib.hid hr7⟩
 case rest =>
   obtain ⟨A3, c3, rfl, HR⟩ := hcut
   have HB3 := Lib.hid (H2.out.trans (HR.out.below.mono H2.out.size))
   have D0 := Lib.hid (C0'.out.below HR.out.below C0'.out.lt)
   have HPM := Lib.hid (HR.out.pos (HEA.out wc HB3.out))
   have hb2 : b < w2.heap.size := by omega
   have e1 := cell_keep HR.out.below hb2 e0
   have hbc : b < wc.heap.size := Nat.lt_of_lt_of_le hb2 HR.out.below.size
   have cc := D0.out.cell
   have cl := D0.out.lt
   clear HR HPL HPW HEA hbs HS0 C0' C1 e0 hww
   go_wp2_with fail
   refine (HA1.out wc HB3.out).mono ?_
   rintro r w4 ⟨A4, c4, A5, c5, rfl, n1, n2, n3, n4, s1, s2, hb4⟩
   have H4 := Lib.hid (HB3.out.trans (hb4.mono HB3.out.size))
   have HPM4 := Lib.hid (HPM.out.later hb4)
   have E0 := Lib.hid (D0.out.below hb4 D0.out.lt)
   have e2 := cell_keep hb4 hbc e1
   have hbd : b < w4.heap.size := Nat.lt_of_lt_of_le hbc hb4.size
   have hal : RowKit.Below w4.heap.size w4 (w4.alloc (.cells #[.bool OB1, .slice A4 BY1.length c4, .slice A5 WR1.length c5] 70)) := by (repeat (first | assumption | exact Below.refl _ _ | apply Below.drew | apply below_drewN | (refine Below.alloc ?_ (by first | exact Nat.le_refl _ | omega | (simp; done) | (simp; omega)) _)))
   have S4 := Lib.hid ((s1.below hal).more hal.size)
   have S5 := Lib.hid ((s2.below hal).more hal.size)
   have F0 := Lib.hid (E0.out.alloc (.cells #[.bool OB1, .slice A4 BY1.length c4, .slice A5 WR1.length c5] 70))
   have F2 := Lib.hid (Blk.new w4 70 #[.bool OB1, .slice A4 BY1.length c4, .slice A5 WR1.length c5])
   have H5 := Lib.hid (H4.out.trans (hal.mono H4.out.size))
   have HPM5 := Lib.hid (HPM4.out.later hal)
   have e3 := cell_keep hal hbd e2
   have hl4 : BY1.length ≤ 9223372036854775807 := by omega
   have hl5 : WR1.length ≤ 9223372036854775807 := by omega
   clear hb4 s1 s2 n1 n2 n3 n4 cc cl HPM HB3 D0 HA1 e1 e2 E0 HPM4 H4 hal
   have cc := F0.out.cell
   have cl := F0.out.lt
   go_wp2_with fail
   refine (HA2.out _ H5.out A3 c3 HPM5.out).mono ?_
   rintro r w6 ⟨A6, c6, A7, c7, rfl, n1, n2, n3, n4, s1, s2, hb6⟩
   have hal : RowKit.Below w6.heap.size w6 (w6.alloc (.cells #[.bool OB2, .slice A6 BY2.length c6, .slice A7 WR2.length c7] 70)) := by (repeat (first | assumption | exact Below.refl _ _ | apply Below.drew | apply below_drewN | (refine Below.alloc ?_ (by first | exact Nat.le_refl _ | omega | (simp; done) | (simp; omega)) _)))
   have G2 := Lib.hid ((F2.out.below hb6 F2.out.lt).alloc (.cells #[.bool OB2, .slice A6 BY2.length c6, .slice A7 WR2.length c7] 70))
   have G3 := Lib.hid (Blk.new w6 70 #[.bool OB2, .slice A6 BY2.length c6, .slice A7 WR2.length c7])
   have H7 := Lib.hid ((H5.out.trans (hb6.mono H5.out.size)).trans (hal.mono (H5.out.trans (hb6.mono H5.out.size)).size))
   have T4 := Lib.hid ((((S4.out.below hb6).more hb6.size).below hal).more hal.size)
   have T5 := Lib.hid ((((S5.out.below hb6).more hb6.size).below hal).more hal.size)
   have T6 := Lib.hid ((s1.below hal).more hal.size)
   have T7 := Lib.hid ((s2.below hal).more hal.size)
   have hl6 : BY2.length ≤ 9223372036854775807 := by omega
   have hl7 : WR2.length ≤ 9223372036854775807 := by omega
   have hb5 : b < (w4.alloc (.cells #[.bool OB1, .slice A4 BY1.length c4, .slice A5 WR1.length c5] 70)).heap.size := by rw [World.size_alloc]; omega
   have e4 := cell_keep hal (Nat.lt_of_lt_of_le hb5 hb6.size) (cell_keep hb6 hb5 e3)
   clear hb6 s1 s2 n1 n2 n3 n4 cc cl HPM5 F0 F2 H5 hal HA2 e3 S4 S5 hb5
   by_cases hk1 : k1 = 0
   · by_cases hk2 : k2 = 0
     · obtain ⟨q1, q2, q3⟩ := HLW.out hk1 hk2
       subst hk1 hk2
       rw [errV_zero]
       clear HLW
       go_wp2_with fail
       generalize hw7 : w6.alloc (.cells #[.bool OB2, .slice A6 BY2.length c6, .slice A7 WR2.length c7] 70) = w7 at H7 T4 T5 T6 T7 e4 G2 G3 ⊢
       have f0 : w7.cell? ⟨w4.heap.size, 0, none⟩ = some (.bool OB1) := G2.out.cell 0
       have f1 : w7.cell? ⟨w4.heap.size, 1, none⟩ = some (.slice A4 BY1.length c4) := G2.out.cell 1
       have f2 : w7.cell? ⟨w4.heap.size, 2, none⟩ = some (.slice A5 WR1.length c5) := G2.out.cell 2
       have g0 : w7.cell? ⟨w6.heap.size, 0, none⟩ = some (.bool OB2) := G3.out.cell 0
       have g1 : w7.cell? ⟨w6.heap.size, 1, none⟩ = some (.slice A6 BY2.length c6) := G3.out.cell 1
       have g2 : w7.cell? ⟨w6.heap.size, 2, none⟩ = some (.slice A7 WR2.length c7) := G3.out.cell 2
       have l2 := G2.out.lt
       have l3 := G3.out.lt
       clear hw7 G2 G3
       subst q1
       obtain ⟨B1, hB1⟩ : ∃ B, BY1.contains z.p.name.toList = B := ⟨_, rfl⟩
       obtain ⟨B2, hB2⟩ : ∃ B, WR1.contains z.p.name.toList = B := ⟨_, rfl⟩
       have K1 : Hid (∀ n, Calls Tryz.prog 36 #[.string z.p.name, .slice A4 BY1.length c4] (w7.drewN n) fun e w'' => e = .returned (.bool B1) ∧ ∃ m, w'' = w7.drewN m) := fun n => (HE.out (w7.drewN n) z.p.name BY1 A4 c4 (str_drewN T4.out n) hl4).mono fun _ _ h => ⟨by rw [h.1, hB1], n, h.2.symm⟩
       have K2 : Hid (∀ n, Calls Tryz.prog 36 #[.string s, .slice A6 BY2.length c6] (w7.drewN n) fun e w'' => e = .returned (.bool B1) ∧ ∃ m, w'' = w7.drewN m) := fun n => (HE.out (w7.drewN n) s BY2 A6 c6 (str_drewN T6.out n) hl6).mono fun _ _ h => ⟨by rw [h.1, ← q2, hB1], n, h.2.symm⟩
       have K3 : Hid (∀ n, Calls Tryz.prog 36 #[.string z.p.name, .slice A5 WR1.length c5] (w7.drewN n) fun e w'' => e = .returned (.bool B2) ∧ ∃ m, w'' = w7.drewN m) := fun n => (HE.out (w7.drewN n) z.p.name WR1 A5 c5 (str_drewN T5.out n) hl5).mono fun _ _ h => ⟨by rw [h.1, hB2], n, h.2.symm⟩
       have K4 : Hid (∀ n, Calls Tryz.prog 36 #[.string s, .slice A7 WR2.length c7] (w7.drewN n) fun e w'' => e = .returned (.bool B2) ∧ ∃ m, w'' = w7.drewN m) := fun n => (HE.out (w7.drewN n) s WR2 A7 c7 (str_drewN T7.out n) hl7).mono fun _ _ h => ⟨by rw [h.1, ← q3, hB2], n, h.2.symm⟩
       clear hB1 hB2 q2 q3 HE T4 T5 T6 T7
       cases OB1 <;> cases B1 <;> cases B2
       all_goals
         go_quiet ((first | (go_at_call 36; with_reducible exact K1.out _) | (go_at_call 36; with_reducible exact K2.out _) | (go_at_call 36; with_reducible exact K3.out _) | (go_at_call 36; with_reducible exact K4.out _)))
         go_wp2_with fail
         go_ret
         exact ⟨rfl, below_drewN H7.out _⟩
     · have tk : (k2 != 0) = true := by simpa using hk2
       subst hk1
       rw [errV_zero]
       clear hk2 HLW
       go_wp2_with fail
       go_ret
       exact ⟨rfl, H7.out⟩
   · have tk : (k1 != 0) = true := by simpa using hk1
     clear hk1 HLW
     go_wp2_with fail
     go_ret
     exact ⟨rfl, H7.out⟩
theorem law_copies (x : Aq) (ps : List PoM) (A : Option Addr) (c : Nat) (k : Int) (s : ByteArray) (w : World) (hI : AqIn x w) (hP : PosIn w A ps) (hs : s.size ≤ 140737488351232) (hn : ps.length * 216 ≤ reachBytes) :
   Calls Tryz.prog 11 #[.slice x.Ea x.hs.length x.ec, .slice A ps.length c, .agg #[.string x.q.who.ty, .string x.q.who.id, .string x.q.act.ty, .string x.q.act.id, .string x.q.what.ty, .string x.q.what.id, .slice x.qa x.q.ctx.length x.qc], .int .i64 k, .string s] w fun r w' => r = .returned (.bool true) ∧ RowKit.Below w.heap.size w w' := by
 by_cases hk : 0 ≤ k ∧ k < ps.length
 · obtain ⟨j, rfl⟩ := Int.eq_ofNat_of_zero_le hk.1
   have hj : j < ps.length := by omega
   exact law_copies_ok x ps A c j s w hI hP hs hn _ (List.getElem?_eq_getElem hj)
 · exact law_copies_no x ps A c k s w hI hk
end Go.Proofs.YtpheiojmcafolaaGreatDoor
