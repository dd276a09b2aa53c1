/-
  THE WALK of the law AuthAlone (printed by mklawal.py).
-/
import Derived.Test.YtpheiojmcafolaaGreatDoorAw24
import Derived.BigQuiet
import Derived.Deep.RegionHeld3
namespace Go.Proofs.YtpheiojmcafolaaGreatDoor
set_option maxRecDepth 100000
open Go.RowKit Go.Sort
theorem cell_keep {w w' : World} {b i : Nat} {v : Value} (h : RowKit.Below w.heap.size w w') (hb : b < w.heap.size) (hc : w.cell? ⟨b, i, none⟩ = some v) : w'.cell? ⟨b, i, none⟩ = some v := (h.cell (p := ⟨b, i, none⟩) hb).trans hc
theorem str_drewN {w : World} {A : Option Addr} {ss : List (List UInt8)} (h : StrSl w w.heap.size A ss) (n : Nat) : StrSl (w.drewN n) (w.drewN n).heap.size A ss := h
theorem PosIn.one {w : World} {b o : Nat} {ps : List PoM} (h : PosIn w (some ⟨b, o, none⟩) ps) {k : Nat} {y : PoM} (hy : ps[k]? = some y) : PosIn w (some ⟨b, o + k * 15, none⟩) [y] := by
 obtain ⟨b', o', e, hb, hc⟩ := poSl_at h.sl hy
 injection e with e
 injection e with e1 e2
 subst e1 e2
 refine ⟨fun _ => ⟨b, o + k * 15, rfl, hb, fun i z hz => ?_⟩, fun z hz => ?_⟩
 · cases i with
   | zero => simp at hz; subst hz; simpa using hc
   | succ i => simp at hz
 · rw [List.mem_singleton] at hz; subst hz; exact h.each _ (List.mem_of_getElem? hy)
theorem one_ok {x : Aq} {ps : List PoM} (h : askErr x ps = 0) {y : PoM} (hy : y ∈ ps) : askErr x [y] = 0 := by
 obtain ⟨h1, h2, h3⟩ := firstI_zero h
 obtain ⟨_, a2, _⟩ := (auth_ok nmQ pe1Q pe2Q ps).1 h2
 have h4 : aErr [y] = 0 := (auth_ok nmQ pe1Q pe2Q [y]).2 ⟨by simp, fun p hp => by rw [List.mem_singleton] at hp; subst hp; exact a2 _ hy, by simp⟩
 unfold askErr firstI
 rw [if_neg (by simp [h1]), if_neg (by simp [h4]), h3]
theorem vt_three (es : List En) (q : Rq) (y : PoM) : vtQ es q y = 1 ∨ vtQ es q y = 0 ∨ vtQ es q y = -1 := by
 unfold vtQ
 split
 · split
   · split
     · exact .inl rfl
     · exact .inr (.inl rfl)
   · exact .inr (.inr rfl)
 · exact .inr (.inr rfl)
theorem any_next {α : Type} {f : α → Bool} {ps : List α} {k : Nat} {y : α} (h : ps[k]? = some y) : (ps.take (k + 1)).any f = ((ps.take k).any f || f y) := by
 rw [List.take_add_one, h, List.any_append]; simp
theorem allow_any {α : Type} {nm : α → List UInt8} {fb : α → Bool} {vt : α → Int} (ps : List α) : allowP nm fb vt ps = ((ps.any fun p => vt p == 1 && !fb p) && !(ps.any fun p => vt p == 1 && fb p)) := by
 rw [Bool.eq_iff_iff, allow_iff]
 simp [Bool.and_eq_true, List.any_eq_true]
def Rq7 (x : Aq) (b : Nat) (w1 W : World) : Prop := W.cell? ⟨b, 0, none⟩ = some (.string x.q.who.ty) ∧ W.cell? ⟨b, 1, none⟩ = some (.string x.q.who.id) ∧ W.cell? ⟨b, 2, none⟩ = some (.string x.q.act.ty) ∧ W.cell? ⟨b, 3, none⟩ = some (.string x.q.act.id) ∧ W.cell? ⟨b, 4, none⟩ = some (.string x.q.what.ty) ∧ W.cell? ⟨b, 5, none⟩ = some (.string x.q.what.id) ∧ W.cell? ⟨b, 6, none⟩ = some (.slice x.qa x.q.ctx.length x.qc) ∧ RowKit.Below w1.heap.size w1 W
theorem Rq7.of {x : Aq} {b : Nat} {w1 W : World} (h : Blk w1 b 39 #[.string x.q.who.ty, .string x.q.who.id, .string x.q.act.ty, .string x.q.act.id, .string x.q.what.ty, .string x.q.what.id, .slice x.qa x.q.ctx.length x.qc]) (hb : RowKit.Below w1.heap.size w1 W) : Rq7 x b w1 W := by
 have h := h.below hb h.lt
 exact ⟨h.cell 0, h.cell 1, h.cell 2, h.cell 3, h.cell 4, h.cell 5, h.cell 6, hb⟩
theorem Rq7.b {x : Aq} {b : Nat} {w1 W : World} (h : Rq7 x b w1 W) : RowKit.Below w1.heap.size w1 W := by
 obtain ⟨_, _, _, _, _, _, _, h⟩ := h
 exact h
theorem Rq7.next {x : Aq} {b : Nat} {w1 W : World} (h : Rq7 x b w1 W) (hB : Blk w1 b 39 #[.string x.q.who.ty, .string x.q.who.id, .string x.q.act.ty, .string x.q.act.id, .string x.q.what.ty, .string x.q.what.id, .slice x.qa x.q.ctx.length x.qc]) (o : Obj) : Rq7 x b w1 (W.alloc o) := Rq7.of hB (h.b.alloc h.b.size o)
theorem Rq7.set {x : Aq} {b : Nat} {w1 W : World} (h : Rq7 x b w1 W) (hB : Blk w1 b 39 #[.string x.q.who.ty, .string x.q.who.id, .string x.q.act.ty, .string x.q.act.id, .string x.q.what.ty, .string x.q.what.id, .slice x.qa x.q.ctx.length x.qc]) {p : Addr} (hp : w1.heap.size ≤ p.block) (u : Value) : Rq7 x b w1 (W.setCell p u) := Rq7.of hB (h.b.setCell hp u)
theorem one_ans (x : Aq) (y : PoM) (h : askErr x [y] = 0) : aOB x [y] = (vtQ x.es x.q y == 1 && !y.p.forbid) ∧ (aBY x [y]).length = (if vtQ x.es x.q y = 1 then 1 else 0) ∧ (aWR x [y]).length = (if vtQ x.es x.q y = -1 then 1 else 0) := by
 unfold aOB aBY aWR
 rw [if_pos h, if_pos h, if_pos h]
 refine ⟨?_, alone_by, alone_wrong⟩
 rw [Bool.eq_iff_iff, alone_allow]
 simp [fbQ]
set_option maxHeartbeats 12800000 in
theorem law_al_bad (x : Aq) (ps : List PoM) (A : Option Addr) (c : Nat) (w : World) (hI : AqIn x w) (hP : PosIn w A ps) (hk : ¬ askErr x ps = 0) :
   Calls Tryz.prog 9 #[.slice x.Ea x.hs.length x.ec, .slice A ps.length c, .agg #[.string x.q.who.ty, .string x.q.who.id, .string x.q.act.ty, .string x.q.act.id, .string x.q.what.ty, .string x.q.what.id, .slice x.qa x.q.ctx.length x.qc]] w fun r w' => r = .returned (.bool true) ∧ RowKit.Below w.heap.size w w' := by
 have h0 : RowKit.Below w.heap.size w (w.alloc (.cells #[.string x.q.who.ty, .string x.q.who.id, .string x.q.act.ty, .string x.q.act.id, .string x.q.what.ty, .string x.q.what.id, .slice x.qa x.q.ctx.length x.qc] 39)) := by (repeat (first | assumption | exact Below.refl _ _ | apply Below.drew | apply below_drewN | (refine Below.alloc ?_ (by first | exact Nat.le_refl _ | omega | (simp; done) | (simp; omega)) _)))
 have B0 := Lib.hid (Blk.new w 39 #[.string x.q.who.ty, .string x.q.who.id, .string x.q.act.ty, .string x.q.act.id, .string x.q.what.ty, .string x.q.what.id, .slice x.qa x.q.ctx.length x.qc])
 have H0 := Lib.hid h0
 have HP := Lib.hid (law_permitted (w.alloc (.cells #[.string x.q.who.ty, .string x.q.who.id, .string x.q.act.ty, .string x.q.act.id, .string x.q.what.ty, .string x.q.what.id, .slice x.qa x.q.ctx.length x.qc] 39)) (hI.err.below h0 hI.err.lt))
 have HA := Lib.hid (fun W (hW : RowKit.Below w.heap.size w W) => auth_Ask_bad x ps A c W (hI.later hW) (hP.later hW) hk)
 unfold AnsBack at HA
 have tk : (askErr x ps != 0) = true := by simpa using hk
 generalize askErr x ps = k at HA tk
 clear hI hP hk h0
 go_enter Tryz.func9, Tryz.ntmps9
 go_wp2_with fail
 refine HP.out.mono ?_
 rintro r w1 ⟨rfl, hb1⟩
 have B1 := Lib.hid (B0.out.below hb1 B0.out.lt)
 have H1 := Lib.hid (H0.out.trans (hb1.mono H0.out.size))
 have cc := B1.out.cell
 have cl := B1.out.lt
 clear hb1
 go_wp2_with fail
 refine (HA.out w1 H1.out).mono ?_
 rintro r w2 ⟨A1, c1, A2, c2, rfl, _, _, _, _, _, _, hb2⟩
 have H2 := Lib.hid (H1.out.trans (hb2.mono H1.out.size))
 clear hb2 cc cl
 go_wp2_with fail
 go_ret
 exact ⟨rfl, H2.out.alloc H2.out.size _⟩
set_option maxHeartbeats 51200000 in
theorem law_al_ok (x : Aq) (ps : List PoM) (A : Option Addr) (c : Nat) (w : World) (hI : AqIn x w) (hP : PosIn w A ps) (hle : ps.length ≤ c) (_hmx : c ≤ 9223372036854775807) (hk : askErr x ps = 0) :
   Calls Tryz.prog 9 #[.slice x.Ea x.hs.length x.ec, .slice A ps.length c, .agg #[.string x.q.who.ty, .string x.q.who.id, .string x.q.act.ty, .string x.q.act.id, .string x.q.what.ty, .string x.q.what.id, .slice x.qa x.q.ctx.length x.qc]] w fun r w' => r = .returned (.bool true) ∧ RowKit.Below w.heap.size w w' := by
 obtain ⟨h12, -, hnd⟩ := aErr_use (firstI_zero hk).2.1
 have B0 := Lib.hid (Blk.new w 39 #[.string x.q.who.ty, .string x.q.who.id, .string x.q.act.ty, .string x.q.act.id, .string x.q.what.ty, .string x.q.what.id, .slice x.qa x.q.ctx.length x.qc])
 have h0 : RowKit.Below w.heap.size w (w.alloc (.cells #[.string x.q.who.ty, .string x.q.who.id, .string x.q.act.ty, .string x.q.act.id, .string x.q.what.ty, .string x.q.what.id, .slice x.qa x.q.ctx.length x.qc] 39)) := by (repeat (first | assumption | exact Below.refl _ _ | apply Below.drew | apply below_drewN | (refine Below.alloc ?_ (by first | exact Nat.le_refl _ | omega | (simp; done) | (simp; omega)) _)))
 have H0 := Lib.hid h0
 have HP := Lib.hid (law_permitted (w.alloc (.cells #[.string x.q.who.ty, .string x.q.who.id, .string x.q.act.ty, .string x.q.act.id, .string x.q.what.ty, .string x.q.what.id, .slice x.qa x.q.ctx.length x.qc] 39)) (hI.err.below h0 hI.err.lt))
 have HPS := Lib.hid hP
 have HA := Lib.hid (fun W (hW : RowKit.Below w.heap.size w W) => auth_Ask_ok x ps A c W (hI.later hW) (hP.later hW) hk)
 have HO := Lib.hid (fun y (hy : y ∈ ps) W (hW : RowKit.Below w.heap.size w W) A' c' (hp : PosIn W A' [y]) => show Calls Tryz.prog 34 #[.slice x.Ea x.hs.length x.ec, .slice A' 1 c', .agg #[.string x.q.who.ty, .string x.q.who.id, .string x.q.act.ty, .string x.q.act.id, .string x.q.what.ty, .string x.q.what.id, .slice x.qa x.q.ctx.length x.qc]] W fun r w' => AnsBack W r w' (aOB x [y]) (aBY x [y]) (aWR x [y]) 0 by
   have h := auth_Ask x [y] A' c' W (hI.later hW) hp
   rw [one_ok hk hy] at h
   exact h)
 have HV := Lib.hid (fun y (hy : y ∈ ps) => one_ans x y (one_ok hk hy))
 obtain ⟨vt, hvt⟩ : ∃ vt, vt = vtQ x.es x.q := ⟨_, rfl⟩
 rw [← hvt] at HA HV
 have HT := Lib.hid (fun y => show vt y = 1 ∨ vt y = 0 ∨ vt y = -1 by rw [hvt]; exact vt_three _ _ y)
 have HOB : Hid (allowP nmQ fbQ vt ps = ((ps.any fun p => vt p == 1 && !fbQ p) && !(ps.any fun p => vt p == 1 && fbQ p))) := allow_any ps
 have HWR : Hid (∀ y ∈ ps, (wrongs nmQ vt ps).contains y.p.name.toList = (vt y == -1)) := fun y hy => by
   rw [Bool.eq_iff_iff, List.contains_iff_mem, beq_iff_eq]; exact wrong_iff hnd hy
 generalize allowP nmQ fbQ vt ps = OB at HA HOB
 generalize byP nmQ fbQ vt ps = BY at HA
 generalize wrongs nmQ vt ps = WR at HA HWR
 have HE := Lib.hid (fun W (s : ByteArray) ss A1 c1 (hs : StrSl W W.heap.size A1 ss) (hl : ss.length ≤ 9223372036854775807) => law_among s ss A1 c1 W hs hl)
 unfold AnsBack at HA HO
 rw [errV_zero] at HA HO
 clear hI hP hk h0 hvt hnd
 go_enter Tryz.func9, Tryz.ntmps9
 go_wp2_with fail
 refine HP.out.mono ?_
 rintro r w1 ⟨rfl, hb1⟩
 have B1 := Lib.hid (B0.out.below hb1 B0.out.lt)
 have H1 := Lib.hid (H0.out.trans (hb1.mono H0.out.size))
 have cc := B1.out.cell
 have cl := B1.out.lt
 clear hb1 B0 H0 HP
 go_wp2_with fail
 refine (HA.out w1 H1.out).mono ?_
 rintro r w2 ⟨A1, cb, A2, c2, rfl, n1, n2, n3, n4, s1, s2, hb2⟩
 have H2 := Lib.hid (H1.out.trans (hb2.mono H1.out.size))
 have B2 := Lib.hid ((B1.out.below hb2 B1.out.lt).alloc (.cells #[.bool OB, .slice A1 BY.length cb, .slice A2 WR.length c2] 70))
 have D2 := Lib.hid (Blk.new w2 70 #[.bool OB, .slice A1 BY.length cb, .slice A2 WR.length c2])
 have hal : RowKit.Below w2.heap.size w2 (w2.alloc (.cells #[.bool OB, .slice A1 BY.length cb, .slice A2 WR.length c2] 70)) := by (repeat (first | assumption | exact Below.refl _ _ | apply Below.drew | apply below_drewN | (refine Below.alloc ?_ (by first | exact Nat.le_refl _ | omega | (simp; done) | (simp; omega)) _)))
 have S2 := Lib.hid ((s2.below hal).more hal.size)
 have H3 := Lib.hid (H2.out.trans (hal.mono H2.out.size))
 have hwl : WR.length ≤ 9223372036854775807 := by omega
 clear hb2 cc cl s1 s2 hal n3 n4 n1 n2 HA B1 H1 H2
 go_wp2_with fail
 generalize hw3 : w2.alloc (.cells #[.bool OB, .slice A1 BY.length cb, .slice A2 WR.length c2] 70) = w3 at B2 D2 S2 H3 ⊢
 have h23 : w2.heap.size < w3.heap.size := D2.out.lt
 clear hw3
 go_loopw [10, 11, 12] (fun pv fv kk wr => ∃ (k : Nat) (pk fk : Bool), pv = .bool pk ∧ fv = .bool fk ∧ kk = .int .i64 k ∧ k ≤ ps.length ∧ Hid (pk = (ps.take k).any fun p => vt p == 1 && !fbQ p) ∧ Hid (fk = (ps.take k).any fun p => vt p == 1 && fbQ p) ∧ RowKit.Below w3.heap.size w3 wr) (fun _ _ kk _ => ps.length - (intOf kk).toNat)
 case atStart => exact ⟨0, false, false, rfl, rfl, rfl, by omega, Lib.hid rfl, Lib.hid rfl, RowKit.Below.refl _ _⟩
 case round =>
   obtain ⟨k, pk, fk, rfl, rfl, rfl, hk, HPK, HFK, hbr⟩ := hrel
   have hzr := hbr.size
   have Hwr : Hid (RowKit.Below w.heap.size w wr) := Lib.hid (H3.out.trans (hbr.mono H3.out.size))
   have D3 := Lib.hid (D2.out.below hbr D2.out.lt)
   have B3 := Lib.hid (B2.out.below hbr B2.out.lt)
   have T2 := Lib.hid ((S2.out.below hbr).more hbr.size)
   by_cases hlt : k < ps.length
   case neg =>
     have hkk : k = ps.length := by omega
     subst hkk
     rw [List.take_length] at HPK HFK
     have hob : OB = (pk && !fk) := by rw [HOB.out, HPK.out, HFK.out]
     have dd := D3.out.cell
     have dl := D3.out.lt
     subst hob
     clear HPK HFK HOB hlt
     cases pk <;> cases fk <;> (
       simp only [Bool.and_true, Bool.and_false, Bool.not_true, Bool.not_false] at dd
       go_wp2_with fail
       go_ret
       exact ⟨rfl, Hwr.out⟩)
   obtain ⟨y, hy⟩ : ∃ y, ps[k]? = some y := ⟨_, List.getElem?_eq_getElem hlt⟩
   have hym := List.mem_of_getElem? hy
   obtain ⟨b, o, hA, hb, d0, d1, -⟩ := poSl_cells (HPS.out.later Hwr.out).sl hy
   subst hA
   have HON := Lib.hid ((HPS.out.later Hwr.out).one hy)
   have i1 : (0 : Int) ≤ (k : Int) := by omega
   have i2 : (k : Int) < (ps.length : Int) := by omega
   have hpn := any_next (f := fun p => vt p == 1 && !fbQ p) hy
   have hfn := any_next (f := fun p => vt p == 1 && fbQ p) hy
   rw [← HPK.out] at hpn
   rw [← HFK.out] at hfn
   have hfq : fbQ y = y.p.forbid := rfl
   have hwry := HWR.out y hym
   have c0 : wr.cell? ⟨b, o + k * 15, none⟩ = some (.string y.p.name) := d0
   have c1 : wr.cell? ⟨b, o + k * 15 + 1, none⟩ = some (.bool y.p.forbid) := d1
   have HOy := Lib.hid (HO.out y hym)
   obtain ⟨v1, v2, v3⟩ := HV.out y hym
   have ht := HT.out y
   simp only [hfq] at hpn hfn
   obtain ⟨fb, hfb⟩ : ∃ fb, y.p.forbid = fb := ⟨_, rfl⟩
   rw [hfb] at c1 hpn hfn v1
   have hwp : IntKind.i64.wrap ((k : Int) + 1) = (k : Int) + 1 := by rw [IntKind.wrap_i64]; omega
   have q : ∀ (W : World), (Instr.slice 67 (.slice (some ⟨b, o, none⟩) ps.length c) (some (.int .i64 (k : Int))) (some (.int .i64 ((k : Int) + 1))) none).run Tryz.prog W = .ok (.slice (some ⟨b, o + k * 15, none⟩) 1 (c - k)) W := by
     intro W
     go_simp
     rw [if_pos (show (0 : Int) ≤ (k : Int) + 1 ∧ (k : Int) + 1 ≤ (c : Int) by omega), if_neg (show ¬ c = k by omega)]
   clear hfb hfq HV HT HWR HPK HFK hym hy HO d0 d1 HPS
   rcases ht with ht | ht | ht
   · cases fb
     · rw [ht] at v1 v2 v3 hpn hfn
       rw [show (((1 : Int) == 1) && !false) = true from (by rfl)] at v1
       rw [if_pos rfl] at v2
       rw [if_neg (by decide)] at v3
       rw [show (vt y == -1) = false by rw [ht]; rfl] at hwry
       rw [v1, v2, v3] at HOy
       clear v1 v2 v3 ht
       have HPN : Hid (true = (ps.take (k + 1)).any fun p => vt p == 1 && !fbQ p) := by show _ = _; rw [hpn]; simp
       have HFN : Hid (fk = (ps.take (k + 1)).any fun p => vt p == 1 && fbQ p) := by show _ = _; rw [hfn]; simp
       have HE1 := Lib.hid (fun W (hs : StrSl W W.heap.size A2 WR) => HE.out W y.p.name WR A2 c2 hs hwl)
       rw [hwry] at HE1
       clear hpn hfn hwry HE
       have HS0 : Hid (Rq7 x w.heap.size wr wr.drew) := Lib.hid (Rq7.of B3.out ((RowKit.Below.refl _ _).drew))
       go_wp2_with fail
       go_cut [13, 14] from 33 to 43 (fun bv ev wx => ∃ g A5 c5 A6 c6, bv = .pointer (some ⟨g, 0, none⟩) ∧ ev = .nilIface ∧ Hid (Blk wx g 70 #[.bool true, .slice A5 1 c5, .slice A6 0 c6]) ∧ Hid (RowKit.Below wr.heap.size wr wx))
       case first =>
         go_region_held3 (fun W => W.cell? ⟨w.heap.size, 0, none⟩ = some (.string x.q.who.ty) ∧ W.cell? ⟨w.heap.size, 1, none⟩ = some (.string x.q.who.id) ∧ W.cell? ⟨w.heap.size, 2, none⟩ = some (.string x.q.act.ty) ∧ W.cell? ⟨w.heap.size, 3, none⟩ = some (.string x.q.act.id) ∧ W.cell? ⟨w.heap.size, 4, none⟩ = some (.string x.q.what.ty) ∧ W.cell? ⟨w.heap.size, 5, none⟩ = some (.string x.q.what.id) ∧ W.cell? ⟨w.heap.size, 6, none⟩ = some (.slice x.qa x.q.ctx.length x.qc) ∧ RowKit.Below wr.heap.size wr W) (first | exact HS0.out | exact Rq7.next (by assumption) B3.out _ | exact Rq7.of B3.out (by assumption) | exact Rq7.of B3.out (hbw5.alloc hbw5.size _) | exact Rq7.set (Rq7.set (Rq7.set (by assumption) B3.out (by simp) _) B3.out (by simp) _) B3.out (by simp) _)
           ((go_at_call 34; refine (HOy.out _ (Hwr.out.trans ((Rq7.b (x := x) (b := w.heap.size) (w1 := wr) (by assumption)).mono Hwr.out.size)) (some ⟨b, o + k * 15, none⟩) (c - k) (HON.out.later (Rq7.b (x := x) (b := w.heap.size) (w1 := wr) (by assumption)))).mono ?_; rintro r w5 ⟨A5, c5, A6, c6, rfl, n1, n2, n3, n4, s1, s2, hb5⟩; have hbw5 : RowKit.Below wr.heap.size wr w5 := (Rq7.b (x := x) (b := w.heap.size) (w1 := wr) (by assumption)).trans (hb5.mono (Rq7.b (x := x) (b := w.heap.size) (w1 := wr) (by assumption)).size); (first | (have kb : Blk w5 wr.heap.size 70 #[.bool false, .slice none 0 0, .slice none 0 0] := (Blk.new wr 70 #[.bool false, .slice none 0 0, .slice none 0 0]).drew.below hb5 (by simp); have k0 := kb.cell 0; have k1 := kb.cell 1; have k2 := kb.cell 2; have z0 := kb.frozen 0; have z1 := kb.frozen 1; have z2 := kb.frozen 2) | skip)))
         all_goals
           go_wp2_with fail
           go_meet
           first
             | exact ⟨w5.heap.size, A5, c5, A6, c6, rfl, rfl, Blk.new w5 _ _, hbw5.alloc hbw5.size _⟩
             | exact ⟨wr.heap.size, A5, c5, A6, c6, rfl, rfl, ((kb.set 0 _).set 1 _).set 2 _, ((hbw5.setCell (Nat.le_refl _) _).setCell (Nat.le_refl _) _).setCell (Nat.le_refl _) _⟩
       case rest =>
         obtain ⟨g, A5, c5, A6, c6, rfl, rfl, G7, HW7⟩ := hcut
         obtain ⟨w7, rfl⟩ : ∃ w7, w7 = wc := ⟨_, rfl⟩
         have H7 := Lib.hid (hbr.trans (HW7.out.mono hzr))
         have U2 := Lib.hid ((T2.out.below HW7.out).more HW7.out.size)
         have e0 := cell_keep HW7.out hb c0
         have e1 := cell_keep HW7.out hb c1
         have D7 := Lib.hid (D3.out.below HW7.out D3.out.lt)
         clear c0 c1 D3 T2 HON B3 HS0 HOy
         have f2 : w7.cell? ⟨w2.heap.size, 2, none⟩ = some (.slice A2 WR.length c2) := D7.out.cell 2
         have g0 : w7.cell? ⟨g, 0, none⟩ = some (.bool true) := G7.out.cell 0
         have g1 : w7.cell? ⟨g, 1, none⟩ = some (.slice A5 1 c5) := G7.out.cell 1
         have g2 : w7.cell? ⟨g, 2, none⟩ = some (.slice A6 0 c6) := G7.out.cell 2
         have l2 := D7.out.lt
         have l5 := G7.out.lt
         have G1 : Hid (∀ n, Calls Tryz.prog 36 #[.string y.p.name, .slice A2 WR.length c2] (w7.drewN n) fun e w'' => e = .returned (.bool false) ∧ ∃ m, w'' = w7.drewN m) := fun n => (HE1.out (w7.drewN n) (str_drewN U2.out n)).mono fun _ _ h => ⟨h.1, n, h.2.symm⟩
         clear D7 G7 HE1 U2 HW7
         go_wp2_with fail
         go_quiet ((go_at_call 36; with_reducible exact G1.out _))
         go_wp2_with fail
         exact ⟨⟨k + 1, true, fk, rfl, rfl, by go_num, by omega, HPN, HFN, below_drewN H7.out _⟩, by simp [intOf]; omega⟩
     · rw [ht] at v1 v2 v3 hpn hfn
       rw [show (((1 : Int) == 1) && !true) = false from (by rfl)] at v1
       rw [if_pos rfl] at v2
       rw [if_neg (by decide)] at v3
       rw [show (vt y == -1) = false by rw [ht]; rfl] at hwry
       rw [v1, v2, v3] at HOy
       clear v1 v2 v3 ht
       have HPN : Hid (pk = (ps.take (k + 1)).any fun p => vt p == 1 && !fbQ p) := by show _ = _; rw [hpn]; simp
       have HFN : Hid (true = (ps.take (k + 1)).any fun p => vt p == 1 && fbQ p) := by show _ = _; rw [hfn]; simp
       have HE1 := Lib.hid (fun W (hs : StrSl W W.heap.size A2 WR) => HE.out W y.p.name WR A2 c2 hs hwl)
       rw [hwry] at HE1
       clear hpn hfn hwry HE
       have HS0 : Hid (Rq7 x w.heap.size wr wr.drew) := Lib.hid (Rq7.of B3.out ((RowKit.Below.refl _ _).drew))
       go_wp2_with fail
       go_cut [13, 14] from 33 to 43 (fun bv ev wx => ∃ g A5 c5 A6 c6, bv = .pointer (some ⟨g, 0, none⟩) ∧ ev = .nilIface ∧ Hid (Blk wx g 70 #[.bool false, .slice A5 1 c5, .slice A6 0 c6]) ∧ Hid (RowKit.Below wr.heap.size wr wx))
       case first =>
         go_region_held3 (fun W => W.cell? ⟨w.heap.size, 0, none⟩ = some (.string x.q.who.ty) ∧ W.cell? ⟨w.heap.size, 1, none⟩ = some (.string x.q.who.id) ∧ W.cell? ⟨w.heap.size, 2, none⟩ = some (.string x.q.act.ty) ∧ W.cell? ⟨w.heap.size, 3, none⟩ = some (.string x.q.act.id) ∧ W.cell? ⟨w.heap.size, 4, none⟩ = some (.string x.q.what.ty) ∧ W.cell? ⟨w.heap.size, 5, none⟩ = some (.string x.q.what.id) ∧ W.cell? ⟨w.heap.size, 6, none⟩ = some (.slice x.qa x.q.ctx.length x.qc) ∧ RowKit.Below wr.heap.size wr W) (first | exact HS0.out | exact Rq7.next (by assumption) B3.out _ | exact Rq7.of B3.out (by assumption) | exact Rq7.of B3.out (hbw5.alloc hbw5.size _) | exact Rq7.set (Rq7.set (Rq7.set (by assumption) B3.out (by simp) _) B3.out (by simp) _) B3.out (by simp) _)
           ((go_at_call 34; refine (HOy.out _ (Hwr.out.trans ((Rq7.b (x := x) (b := w.heap.size) (w1 := wr) (by assumption)).mono Hwr.out.size)) (some ⟨b, o + k * 15, none⟩) (c - k) (HON.out.later (Rq7.b (x := x) (b := w.heap.size) (w1 := wr) (by assumption)))).mono ?_; rintro r w5 ⟨A5, c5, A6, c6, rfl, n1, n2, n3, n4, s1, s2, hb5⟩; have hbw5 : RowKit.Below wr.heap.size wr w5 := (Rq7.b (x := x) (b := w.heap.size) (w1 := wr) (by assumption)).trans (hb5.mono (Rq7.b (x := x) (b := w.heap.size) (w1 := wr) (by assumption)).size); (first | (have kb : Blk w5 wr.heap.size 70 #[.bool false, .slice none 0 0, .slice none 0 0] := (Blk.new wr 70 #[.bool false, .slice none 0 0, .slice none 0 0]).drew.below hb5 (by simp); have k0 := kb.cell 0; have k1 := kb.cell 1; have k2 := kb.cell 2; have z0 := kb.frozen 0; have z1 := kb.frozen 1; have z2 := kb.frozen 2) | skip)))
         all_goals
           go_wp2_with fail
           go_meet
           first
             | exact ⟨w5.heap.size, A5, c5, A6, c6, rfl, rfl, Blk.new w5 _ _, hbw5.alloc hbw5.size _⟩
             | exact ⟨wr.heap.size, A5, c5, A6, c6, rfl, rfl, ((kb.set 0 _).set 1 _).set 2 _, ((hbw5.setCell (Nat.le_refl _) _).setCell (Nat.le_refl _) _).setCell (Nat.le_refl _) _⟩
       case rest =>
         obtain ⟨g, A5, c5, A6, c6, rfl, rfl, G7, HW7⟩ := hcut
         obtain ⟨w7, rfl⟩ : ∃ w7, w7 = wc := ⟨_, rfl⟩
         have H7 := Lib.hid (hbr.trans (HW7.out.mono hzr))
         have U2 := Lib.hid ((T2.out.below HW7.out).more HW7.out.size)
         have e0 := cell_keep HW7.out hb c0
         have e1 := cell_keep HW7.out hb c1
         have D7 := Lib.hid (D3.out.below HW7.out D3.out.lt)
         clear c0 c1 D3 T2 HON B3 HS0 HOy
         have f2 : w7.cell? ⟨w2.heap.size, 2, none⟩ = some (.slice A2 WR.length c2) := D7.out.cell 2
         have g0 : w7.cell? ⟨g, 0, none⟩ = some (.bool false) := G7.out.cell 0
         have g1 : w7.cell? ⟨g, 1, none⟩ = some (.slice A5 1 c5) := G7.out.cell 1
         have g2 : w7.cell? ⟨g, 2, none⟩ = some (.slice A6 0 c6) := G7.out.cell 2
         have l2 := D7.out.lt
         have l5 := G7.out.lt
         have G1 : Hid (∀ n, Calls Tryz.prog 36 #[.string y.p.name, .slice A2 WR.length c2] (w7.drewN n) fun e w'' => e = .returned (.bool false) ∧ ∃ m, w'' = w7.drewN m) := fun n => (HE1.out (w7.drewN n) (str_drewN U2.out n)).mono fun _ _ h => ⟨h.1, n, h.2.symm⟩
         clear D7 G7 HE1 U2 HW7
         go_wp2_with fail
         go_quiet ((go_at_call 36; with_reducible exact G1.out _))
         go_wp2_with fail
         exact ⟨⟨k + 1, pk, true, rfl, rfl, by go_num, by omega, HPN, HFN, below_drewN H7.out _⟩, by simp [intOf]; omega⟩
   · rw [ht] at v1 v2 v3 hpn hfn
     rw [show (((0 : Int) == 1) && !fb) = false from (by cases fb <;> rfl)] at v1
     rw [if_neg (by decide)] at v2
     rw [if_neg (by decide)] at v3
     rw [show (vt y == -1) = false by rw [ht]; rfl] at hwry
     rw [v1, v2, v3] at HOy
     clear v1 v2 v3 ht
     have HPN : Hid (pk = (ps.take (k + 1)).any fun p => vt p == 1 && !fbQ p) := by show _ = _; rw [hpn]; simp
     have HFN : Hid (fk = (ps.take (k + 1)).any fun p => vt p == 1 && fbQ p) := by show _ = _; rw [hfn]; simp
     have HE1 := Lib.hid (fun W (hs : StrSl W W.heap.size A2 WR) => HE.out W y.p.name WR A2 c2 hs hwl)
     rw [hwry] at HE1
     clear hpn hfn hwry HE
     have HS0 : Hid (Rq7 x w.heap.size wr wr.drew) := Lib.hid (Rq7.of B3.out ((RowKit.Below.refl _ _).drew))
     go_wp2_with fail
     go_cut [13, 14] from 33 to 43 (fun bv ev wx => ∃ g A5 c5 A6 c6, bv = .pointer (some ⟨g, 0, none⟩) ∧ ev = .nilIface ∧ Hid (Blk wx g 70 #[.bool false, .slice A5 0 c5, .slice A6 0 c6]) ∧ Hid (RowKit.Below wr.heap.size wr wx))
     case first =>
       go_region_held3 (fun W => W.cell? ⟨w.heap.size, 0, none⟩ = some (.string x.q.who.ty) ∧ W.cell? ⟨w.heap.size, 1, none⟩ = some (.string x.q.who.id) ∧ W.cell? ⟨w.heap.size, 2, none⟩ = some (.string x.q.act.ty) ∧ W.cell? ⟨w.heap.size, 3, none⟩ = some (.string x.q.act.id) ∧ W.cell? ⟨w.heap.size, 4, none⟩ = some (.string x.q.what.ty) ∧ W.cell? ⟨w.heap.size, 5, none⟩ = some (.string x.q.what.id) ∧ W.cell? ⟨w.heap.size, 6, none⟩ = some (.slice x.qa x.q.ctx.length x.qc) ∧ RowKit.Below wr.heap.size wr W) (first | exact HS0.out | exact Rq7.next (by assumption) B3.out _ | exact Rq7.of B3.out (by assumption) | exact Rq7.of B3.out (hbw5.alloc hbw5.size _) | exact Rq7.set (Rq7.set (Rq7.set (by assumption) B3.out (by simp) _) B3.out (by simp) _) B3.out (by simp) _)
         ((go_at_call 34; refine (HOy.out _ (Hwr.out.trans ((Rq7.b (x := x) (b := w.heap.size) (w1 := wr) (by assumption)).mono Hwr.out.size)) (some ⟨b, o + k * 15, none⟩) (c - k) (HON.out.later (Rq7.b (x := x) (b := w.heap.size) (w1 := wr) (by assumption)))).mono ?_; rintro r w5 ⟨A5, c5, A6, c6, rfl, n1, n2, n3, n4, s1, s2, hb5⟩; have hbw5 : RowKit.Below wr.heap.size wr w5 := (Rq7.b (x := x) (b := w.heap.size) (w1 := wr) (by assumption)).trans (hb5.mono (Rq7.b (x := x) (b := w.heap.size) (w1 := wr) (by assumption)).size); (first | (have kb : Blk w5 wr.heap.size 70 #[.bool false, .slice none 0 0, .slice none 0 0] := (Blk.new wr 70 #[.bool false, .slice none 0 0, .slice none 0 0]).drew.below hb5 (by simp); have k0 := kb.cell 0; have k1 := kb.cell 1; have k2 := kb.cell 2; have z0 := kb.frozen 0; have z1 := kb.frozen 1; have z2 := kb.frozen 2) | skip)))
       all_goals
         go_wp2_with fail
         go_meet
         first
           | exact ⟨w5.heap.size, A5, c5, A6, c6, rfl, rfl, Blk.new w5 _ _, hbw5.alloc hbw5.size _⟩
           | exact ⟨wr.heap.size, A5, c5, A6, c6, rfl, rfl, ((kb.set 0 _).set 1 _).set 2 _, ((hbw5.setCell (Nat.le_refl _) _).setCell (Nat.le_refl _) _).setCell (Nat.le_refl _) _⟩
     case rest =>
       obtain ⟨g, A5, c5, A6, c6, rfl, rfl, G7, HW7⟩ := hcut
       obtain ⟨w7, rfl⟩ : ∃ w7, w7 = wc := ⟨_, rfl⟩
       have H7 := Lib.hid (hbr.trans (HW7.out.mono hzr))
       have U2 := Lib.hid ((T2.out.below HW7.out).more HW7.out.size)
       have e0 := cell_keep HW7.out hb c0
       have e1 := cell_keep HW7.out hb c1
       have D7 := Lib.hid (D3.out.below HW7.out D3.out.lt)
       clear c0 c1 D3 T2 HON B3 HS0 HOy
       have f2 : w7.cell? ⟨w2.heap.size, 2, none⟩ = some (.slice A2 WR.length c2) := D7.out.cell 2
       have g0 : w7.cell? ⟨g, 0, none⟩ = some (.bool false) := G7.out.cell 0
       have g1 : w7.cell? ⟨g, 1, none⟩ = some (.slice A5 0 c5) := G7.out.cell 1
       have g2 : w7.cell? ⟨g, 2, none⟩ = some (.slice A6 0 c6) := G7.out.cell 2
       have l2 := D7.out.lt
       have l5 := G7.out.lt
       have G1 : Hid (∀ n, Calls Tryz.prog 36 #[.string y.p.name, .slice A2 WR.length c2] (w7.drewN n) fun e w'' => e = .returned (.bool false) ∧ ∃ m, w'' = w7.drewN m) := fun n => (HE1.out (w7.drewN n) (str_drewN U2.out n)).mono fun _ _ h => ⟨h.1, n, h.2.symm⟩
       clear D7 G7 HE1 U2 HW7
       go_wp2_with fail
       go_quiet ((go_at_call 36; with_reducible exact G1.out _))
       go_wp2_with fail
       exact ⟨⟨k + 1, pk, fk, rfl, rfl, by go_num, by omega, HPN, HFN, below_drewN H7.out _⟩, by simp [intOf]; omega⟩
   · rw [ht] at v1 v2 v3 hpn hfn
     rw [show (((-1 : Int) == 1) && !fb) = false from (by cases fb <;> rfl)] at v1
     rw [if_neg (by decide)] at v2
     rw [if_pos rfl] at v3
     rw [show (vt y == -1) = true by rw [ht]; rfl] at hwry
     rw [v1, v2, v3] at HOy
     clear v1 v2 v3 ht
     have HPN : Hid (pk = (ps.take (k + 1)).any fun p => vt p == 1 && !fbQ p) := by show _ = _; rw [hpn]; simp
     have HFN : Hid (fk = (ps.take (k + 1)).any fun p => vt p == 1 && fbQ p) := by show _ = _; rw [hfn]; simp
     have HE1 := Lib.hid (fun W (hs : StrSl W W.heap.size A2 WR) => HE.out W y.p.name WR A2 c2 hs hwl)
     rw [hwry] at HE1
     clear hpn hfn hwry HE
     have HS0 : Hid (Rq7 x w.heap.size wr wr.drew) := Lib.hid (Rq7.of B3.out ((RowKit.Below.refl _ _).drew))
     go_wp2_with fail
     go_cut [13, 14] from 33 to 43 (fun bv ev wx => ∃ g A5 c5 A6 c6, bv = .pointer (some ⟨g, 0, none⟩) ∧ ev = .nilIface ∧ Hid (Blk wx g 70 #[.bool false, .slice A5 0 c5, .slice A6 1 c6]) ∧ Hid (RowKit.Below wr.heap.size wr wx))
     case first =>
       go_region_held3 (fun W => W.cell? ⟨w.heap.size, 0, none⟩ = some (.string x.q.who.ty) ∧ W.cell? ⟨w.heap.size, 1, none⟩ = some (.string x.q.who.id) ∧ W.cell? ⟨w.heap.size, 2, none⟩ = some (.string x.q.act.ty) ∧ W.cell? ⟨w.heap.size, 3, none⟩ = some (.string x.q.act.id) ∧ W.cell? ⟨w.heap.size, 4, none⟩ = some (.string x.q.what.ty) ∧ W.cell? ⟨w.heap.size, 5, none⟩ = some (.string x.q.what.id) ∧ W.cell? ⟨w.heap.size, 6, none⟩ = some (.slice x.qa x.q.ctx.length x.qc) ∧ RowKit.Below wr.heap.size wr W) (first | exact HS0.out | exact Rq7.next (by assumption) B3.out _ | exact Rq7.of B3.out (by assumption) | exact Rq7.of B3.out (hbw5.alloc hbw5.size _) | exact Rq7.set (Rq7.set (Rq7.set (by assumption) B3.out (by simp) _) B3.out (by simp) _) B3.out (by simp) _)
         ((go_at_call 34; refine (HOy.out _ (Hwr.out.trans ((Rq7.b (x := x) (b := w.heap.size) (w1 := wr) (by assumption)).mono Hwr.out.size)) (some ⟨b, o + k * 15, none⟩) (c - k) (HON.out.later (Rq7.b (x := x) (b := w.heap.size) (w1 := wr) (by assumption)))).mono ?_; rintro r w5 ⟨A5, c5, A6, c6, rfl, n1, n2, n3, n4, s1, s2, hb5⟩; have hbw5 : RowKit.Below wr.heap.size wr w5 := (Rq7.b (x := x) (b := w.heap.size) (w1 := wr) (by assumption)).trans (hb5.mono (Rq7.b (x := x) (b := w.heap.size) (w1 := wr) (by assumption)).size); (first | (have kb : Blk w5 wr.heap.size 70 #[.bool false, .slice none 0 0, .slice none 0 0] := (Blk.new wr 70 #[.bool false, .slice none 0 0, .slice none 0 0]).drew.below hb5 (by simp); have k0 := kb.cell 0; have k1 := kb.cell 1; have k2 := kb.cell 2; have z0 := kb.frozen 0; have z1 := kb.frozen 1; have z2 := kb.frozen 2) | skip)))
       all_goals
         go_wp2_with fail
         go_meet
         first
           | exact ⟨w5.heap.size, A5, c5, A6, c6, rfl, rfl, Blk.new w5 _ _, hbw5.alloc hbw5.size _⟩
           | exact ⟨wr.heap.size, A5, c5, A6, c6, rfl, rfl, ((kb.set 0 _).set 1 _).set 2 _, ((hbw5.setCell (Nat.le_refl _) _).setCell (Nat.le_refl _) _).setCell (Nat.le_refl _) _⟩
     case rest =>
       obtain ⟨g, A5, c5, A6, c6, rfl, rfl, G7, HW7⟩ := hcut
       obtain ⟨w7, rfl⟩ : ∃ w7, w7 = wc := ⟨_, rfl⟩
       have H7 := Lib.hid (hbr.trans (HW7.out.mono hzr))
       have U2 := Lib.hid ((T2.out.below HW7.out).more HW7.out.size)
       have e0 := cell_keep HW7.out hb c0
       have e1 := cell_keep HW7.out hb c1
       have D7 := Lib.hid (D3.out.below HW7.out D3.out.lt)
       clear c0 c1 D3 T2 HON B3 HS0 HOy
       have f2 : w7.cell? ⟨w2.heap.size, 2, none⟩ = some (.slice A2 WR.length c2) := D7.out.cell 2
       have g0 : w7.cell? ⟨g, 0, none⟩ = some (.bool false) := G7.out.cell 0
       have g1 : w7.cell? ⟨g, 1, none⟩ = some (.slice A5 0 c5) := G7.out.cell 1
       have g2 : w7.cell? ⟨g, 2, none⟩ = some (.slice A6 1 c6) := G7.out.cell 2
       have l2 := D7.out.lt
       have l5 := G7.out.lt
       have G1 : Hid (∀ n, Calls Tryz.prog 36 #[.string y.p.name, .slice A2 WR.length c2] (w7.drewN n) fun e w'' => e = .returned (.bool true) ∧ ∃ m, w'' = w7.drewN m) := fun n => (HE1.out (w7.drewN n) (str_drewN U2.out n)).mono fun _ _ h => ⟨h.1, n, h.2.symm⟩
       clear D7 G7 HE1 U2 HW7
       go_wp2_with fail
       go_quiet ((go_at_call 36; with_reducible exact G1.out _))
       go_wp2_with fail
       exact ⟨⟨k + 1, pk, fk, rfl, rfl, by go_num, by omega, HPN, HFN, below_drewN H7.out _⟩, by simp [intOf]; omega⟩
theorem law_alone (x : Aq) (ps : List PoM) (A : Option Addr) (c : Nat) (w : World) (hI : AqIn x w) (hP : PosIn w A ps) (hle : ps.length ≤ c) (hmx : c ≤ 9223372036854775807) :
   Calls Tryz.prog 9 #[.slice x.Ea x.hs.length x.ec, .slice A ps.length c, .agg #[.string x.q.who.ty, .string x.q.who.id, .string x.q.act.ty, .string x.q.act.id, .string x.q.what.ty, .string x.q.what.id, .slice x.qa x.q.ctx.length x.qc]] w fun r w' => r = .returned (.bool true) ∧ RowKit.Below w.heap.size w w' := by
 by_cases hk : askErr x ps = 0
 · exact law_al_ok x ps A c w hI hP hle hmx hk
 · exact law_al_bad x ps A c w hI hP hk
end Go.Proofs.YtpheiojmcafolaaGreatDoor
