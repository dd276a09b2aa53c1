/-
  THE WALK of the law AuthTrumps (printed by mklawtr.py).
-/
import Derived.Test.YtpheiojmcafolaaGreatDoorAw16
import Derived.Test.YtpheiojmcafolaaGreatDoorAw21
import Derived.Test.YtpheiojmcafolaaGreatDoorAw11
import Derived.Test.YtpheiojmcafolaaGreatDoorAw06
import Derived.BigQuiet
namespace Go.Proofs.YtpheiojmcafolaaGreatDoor
set_option maxRecDepth 100000
open Go.RowKit Go.Sort
theorem vt_cases {es : List En} {q : Rq} {e : List Nd} {V : Rs (List Nd)} (h : valueR es q e = V) :
   (∃ B : Bool, V = .ok [bN B] ∧ vtR V = if B = true then 1 else 0) ∨ (∃ z rr, V = .ok (z :: rr) ∧ z.op ≠ 1 ∧ vtR V = -1) ∨ (∃ k, V = .bad k ∧ k ≠ 0 ∧ vtR V = -1) := by
 cases V with
 | bad k => exact .inr (.inr ⟨k, rfl, valueR_nz h, rfl⟩)
 | ok v =>
   have hv := valueR_ok h
   obtain ⟨z, rr, rfl, -⟩ := ((val_iff v).1 hv).2.ne
   by_cases h1 : z.op = 1
   · have hb := bool_val hv h1
     refine .inl ⟨nH (z :: rr) == 1, by rw [← hb], ?_⟩
     show (if z.op = 1 then (if z.n = 1 then (1 : Int) else 0) else -1) = if (z.n == 1) = true then 1 else 0
     rw [if_pos h1]
     by_cases h : z.n = 1 <;> simp [h]
   · exact .inr (.inl ⟨z, rr, rfl, h1, by show (if z.op = 1 then (if z.n = 1 then (1 : Int) else 0) else -1) = -1; rw [if_neg h1]⟩)
theorem str_drewN {w : World} {A : Option Addr} {ss : List (List UInt8)} (h : StrSl w w.heap.size A ss) (n : Nat) : StrSl (w.drewN n) (w.drewN n).heap.size A ss := h
theorem cell_keep {w w' : World} {b i : Nat} {v : Value} (h : RowKit.Below w.heap.size w w') (hb : b < w.heap.size) (hc : w.cell? ⟨b, i, none⟩ = some v) : w'.cell? ⟨b, i, none⟩ = some v :=
 (h.cell (p := ⟨b, i, none⟩) hb).trans hc
theorem any_next {α : Type} {f : α → Bool} {ps : List α} {k : Nat} {y : α} (h : ps[k]? = some y) : (ps.take (k + 1)).any f = ((ps.take k).any f || f y) := by
 rw [List.take_add_one, h, List.any_append]; simp
theorem allow_any {α : Type} {nm : α → List UInt8} {fb : α → Bool} {vt : α → Int} (ps : List α) : allowP nm fb vt ps = ((ps.any fun p => vt p == 1 && !fb p) && !(ps.any fun p => vt p == 1 && fb p)) := by
 rw [Bool.eq_iff_iff, allow_iff]
 simp [Bool.and_eq_true, List.any_eq_true]
theorem by_any {α : Type} {nm : α → List UInt8} {fb : α → Bool} {vt : α → Int} (ps : List α) : decide (0 < (byP nm fb vt ps).length) = ((ps.any fun p => vt p == 1 && !fb p) || (ps.any fun p => vt p == 1 && fb p)) := by
 have h : 0 < (byP nm fb vt ps).length ↔ byP nm fb vt ps ≠ [] := by
   cases byP nm fb vt ps <;> simp
 rw [Bool.eq_iff_iff, decide_eq_true_eq, h, by_some]
 simp only [Bool.or_eq_true, List.any_eq_true, Bool.and_eq_true, beq_iff_eq, Bool.not_eq_true']
 constructor
 · rintro ⟨p, hp, hv⟩
   cases hf : fb p
   · exact .inl ⟨p, hp, hv, hf⟩
   · exact .inr ⟨p, hp, hv, hf⟩
 · rintro (⟨p, hp, hv, _⟩ | ⟨p, hp, hv, _⟩) <;> exact ⟨p, hp, hv⟩
theorem by_no {ps : List PoM} {vt : PoM → Int} (hn : (ps.map nmQ).Nodup) {y : PoM} (hy : y ∈ ps) (h : vt y ≠ 1) : (byP nmQ fbQ vt ps).contains y.p.name.toList = false := by
 rw [Bool.eq_false_iff]
 intro hc
 exact h (by_holds hn hy (List.contains_iff_mem.1 hc))
theorem wr_is {ps : List PoM} {vt : PoM → Int} (hn : (ps.map nmQ).Nodup) {y : PoM} (hy : y ∈ ps) : (wrongs nmQ vt ps).contains y.p.name.toList = (vt y == -1) := by
 rw [Bool.eq_iff_iff, List.contains_iff_mem, beq_iff_eq]
 exact wrong_iff hn hy
set_option maxHeartbeats 12800000 in
theorem law_tr_bad (x : Aq) (ps : List PoM) (A : Option Addr) (c : Nat) (w : World) (hI : AqIn x w) (hP : PosIn w A ps) (hk : ¬ askErr x ps = 0) :
   Calls Tryz.prog 7 #[.slice x.Ea x.hs.length x.ec, .slice A ps.length c, .agg #[.string x.q.who.ty, .string x.q.who.id, .string x.q.act.ty, .string x.q.act.id, .string x.q.what.ty, .string x.q.what.id, .slice x.qa x.q.ctx.length x.qc]] w fun r w' => r = .returned (.bool true) ∧ RowKit.Below w.heap.size w w' := by
 have B0 := Lib.hid (Blk.new w 39 #[.string x.q.who.ty, .string x.q.who.id, .string x.q.act.ty, .string x.q.act.id, .string x.q.what.ty, .string x.q.what.id, .slice x.qa x.q.ctx.length x.qc])
 have h0 : RowKit.Below w.heap.size w (w.alloc (.cells #[.string x.q.who.ty, .string x.q.who.id, .string x.q.act.ty, .string x.q.act.id, .string x.q.what.ty, .string x.q.what.id, .slice x.qa x.q.ctx.length x.qc] 39)) := by (repeat (first | assumption | exact Below.refl _ _ | apply Below.drew | apply below_drewN | (refine Below.alloc ?_ (by first | exact Nat.le_refl _ | omega | (simp; done) | (simp; omega)) _)))
 have H0 := Lib.hid h0
 have HP := Lib.hid (law_permitted (w.alloc (.cells #[.string x.q.who.ty, .string x.q.who.id, .string x.q.act.ty, .string x.q.act.id, .string x.q.what.ty, .string x.q.what.id, .slice x.qa x.q.ctx.length x.qc] 39)) (hI.err.below h0 hI.err.lt))
 have HA := Lib.hid (fun W (hW : RowKit.Below w.heap.size w W) => auth_Ask_bad x ps A c W (hI.later hW) (hP.later hW) hk)
 unfold AnsBack at HA
 have tk : (askErr x ps != 0) = true := by simpa using hk
 generalize askErr x ps = k at HA tk
 clear hI hP hk h0
 go_enter Tryz.func7, Tryz.ntmps7
 go_wp2_with fail
 refine HP.out.mono ?_
 rintro r w1 ⟨rfl, hb1⟩
 have B1 := Lib.hid (B0.out.below hb1 B0.out.lt)
 have H1 := Lib.hid (H0.out.trans (hb1.mono H0.out.size))
 have cc := B1.out.cell
 have cl := B1.out.lt
 clear hb1
 go_wp2_with fail
 refine (HA.out w1 H1.out).mono ?_
 rintro r w2 ⟨A1, c1, A2, c2, rfl, _, _, _, _, _, _, hb2⟩
 have H2 := Lib.hid (H1.out.trans (hb2.mono H1.out.size))
 clear hb2 cc cl
 go_wp2_with fail
 go_ret
 exact ⟨rfl, H2.out.alloc H2.out.size _⟩
set_option maxHeartbeats 51200000 in
theorem law_tr_ok (x : Aq) (ps : List PoM) (A : Option Addr) (c : Nat) (w : World) (hI : AqIn x w) (hP : PosIn w A ps) (hk : askErr x ps = 0) :
   Calls Tryz.prog 7 #[.slice x.Ea x.hs.length x.ec, .slice A ps.length c, .agg #[.string x.q.who.ty, .string x.q.who.id, .string x.q.act.ty, .string x.q.act.id, .string x.q.what.ty, .string x.q.what.id, .slice x.qa x.q.ctx.length x.qc]] w fun r w' => r = .returned (.bool true) ∧ RowKit.Below w.heap.size w w' := by
 obtain ⟨h12, hall, hnd⟩ := aErr_use (firstI_zero hk).2.1
 have B0 := Lib.hid (Blk.new w 39 #[.string x.q.who.ty, .string x.q.who.id, .string x.q.act.ty, .string x.q.act.id, .string x.q.what.ty, .string x.q.what.id, .slice x.qa x.q.ctx.length x.qc])
 have h0 : RowKit.Below w.heap.size w (w.alloc (.cells #[.string x.q.who.ty, .string x.q.who.id, .string x.q.act.ty, .string x.q.act.id, .string x.q.what.ty, .string x.q.what.id, .slice x.qa x.q.ctx.length x.qc] 39)) := by (repeat (first | assumption | exact Below.refl _ _ | apply Below.drew | apply below_drewN | (refine Below.alloc ?_ (by first | exact Nat.le_refl _ | omega | (simp; done) | (simp; omega)) _)))
 have H0 := Lib.hid h0
 have HP := Lib.hid (law_permitted (w.alloc (.cells #[.string x.q.who.ty, .string x.q.who.id, .string x.q.act.ty, .string x.q.act.id, .string x.q.what.ty, .string x.q.what.id, .slice x.qa x.q.ctx.length x.qc] 39)) (hI.err.below h0 hI.err.lt))
 have HA := Lib.hid (fun W (hW : RowKit.Below w.heap.size w W) => auth_Ask_ok x ps A c W (hI.later hW) (hP.later hW) hk)
 obtain ⟨vt, hvt⟩ : ∃ vt, vt = vtQ x.es x.q := ⟨_, rfl⟩
 rw [← hvt] at HA
 obtain ⟨BY, hBY⟩ : ∃ q, byP nmQ fbQ vt ps = q := ⟨_, rfl⟩
 obtain ⟨WR, hWR⟩ : ∃ q, wrongs nmQ vt ps = q := ⟨_, rfl⟩
 obtain ⟨OB, hOB⟩ : ∃ q, allowP nmQ fbQ vt ps = q := ⟨_, rfl⟩
 have HOB : Hid (OB = ((ps.any fun p => vt p == 1 && !fbQ p) && !(ps.any fun p => vt p == 1 && fbQ p))) := by show _ = _; rw [← hOB, allow_any]
 have HBYP : Hid (decide (0 < BY.length) = ((ps.any fun p => vt p == 1 && !fbQ p) || (ps.any fun p => vt p == 1 && fbQ p))) := by show _ = _; rw [← hBY, by_any]
 have HWR : Hid (∀ y ∈ ps, WR.contains y.p.name.toList = (vt y == -1)) := fun y hy => by rw [← hWR]; exact wr_is hnd hy
 have HBN : Hid (∀ y ∈ ps, vt y ≠ 1 → BY.contains y.p.name.toList = false) := fun y hy h => by rw [← hBY]; exact by_no hnd hy h
 rw [hBY, hWR, hOB] at HA
 unfold AnsBack at HA
 rw [errV_zero] at HA
 have HPS := Lib.hid hP
 have HE := Lib.hid (fun W (s : ByteArray) ss A1 c1 (hs : StrSl W W.heap.size A1 ss) (hl : ss.length ≤ 9223372036854775807) => law_among s ss A1 c1 W hs hl)
 have HX := Lib.hid (fun W (hW : RowKit.Below w.heap.size w W) (y : PoM) (hy : y ∈ ps) => show Calls Tryz.prog 21 #[.agg #[.string y.p.name, .bool y.p.forbid, .int .i64 y.p.who.op, .string y.p.who.ty, .string y.p.who.uid.ty, .string y.p.who.uid.id, .int .i64 y.p.act.op, .string y.p.act.ty, .string y.p.act.uid.ty, .string y.p.act.uid.id, .int .i64 y.p.what.op, .string y.p.what.ty, .string y.p.what.uid.ty, .string y.p.what.uid.id, .slice y.A y.cs.length y.c]] W fun e w' => NdsBack W e w' (exprP y.p).1 0 by
   have hm := (hP.later hW).each y hy
   have h := pol_Expr_any y.p y.cs y.A y.c W hm.same hm.z hm.at_ (Nat.le_trans hm.le hm.max)
   rw [(hall y hy).2.1] at h
   exact h)
 have HV : Hid (∀ y ∈ ps, ∃ V, vt y = vtR V ∧ valueR x.es x.q (exprP y.p).1 = V ∧ ∀ W, RowKit.Below w.heap.size w W → ∀ A' c', NdSl W W.heap.size A' (exprP y.p).1 → (exprP y.p).1.length ≤ c' → c' ≤ 9223372036854775807 → Calls Tryz.prog 19 #[.slice x.Ea x.hs.length x.ec, .agg #[.string x.q.who.ty, .string x.q.who.id, .string x.q.act.ty, .string x.q.act.id, .string x.q.what.ty, .string x.q.what.id, .slice x.qa x.q.ctx.length x.qc], .slice A' (exprP y.p).1.length c'] W fun r w' => NdsNewE W r w' (rsL V) (rsE V)) := by
   intro y hy
   refine ⟨_, by rw [hvt]; rfl, rfl, fun W hW A' c' a1 a2 a3 => ?_⟩
   have hm := hP.each y hy
   obtain ⟨hk, hL, ht⟩ := exprP_tree (hall y hy).2.1
   have hni : NdI (exprP y.p).1 := exprP_i64 (hall y hy).2.1 (fun c hc => by rw [hm.same] at hc; obtain ⟨z, hz, rfl⟩ := List.mem_map.1 hc; exact hm.ni z hz)
   exact eval_Value (x.ev (exprP y.p).1 A' c') W ((hI.later hW).va a1 a2 a3 (tree_ok ht) hni)
 have HU := Lib.hid r3_Truth
 clear hI hP hk h0 hBY hvt hnd hWR hOB hall
 go_enter Tryz.func7, Tryz.ntmps7
 go_wp2_with fail
 refine HP.out.mono ?_
 rintro r w1 ⟨rfl, hb1⟩
 have B1 := Lib.hid (B0.out.below hb1 B0.out.lt)
 have H1 := Lib.hid (H0.out.trans (hb1.mono H0.out.size))
 have cc := B1.out.cell
 have cl := B1.out.lt
 clear hb1
 go_wp2_with fail
 refine (HA.out w1 H1.out).mono ?_
 rintro r w2 ⟨A1, cb, A2, c2, rfl, n1, n2, n3, n4, s1, s2, hb2⟩
 have H2 := Lib.hid (H1.out.trans (hb2.mono H1.out.size))
 have B2 := Lib.hid ((B1.out.below hb2 B1.out.lt).alloc (.cells #[.bool OB, .slice A1 BY.length cb, .slice A2 WR.length c2] 70))
 have D2 := Lib.hid (Blk.new w2 70 #[.bool OB, .slice A1 BY.length cb, .slice A2 WR.length c2])
 have hal : RowKit.Below w2.heap.size w2 (w2.alloc (.cells #[.bool OB, .slice A1 BY.length cb, .slice A2 WR.length c2] 70)) := by (repeat (first | assumption | exact Below.refl _ _ | apply Below.drew | apply below_drewN | (refine Below.alloc ?_ (by first | exact Nat.le_refl _ | omega | (simp; done) | (simp; omega)) _)))
 have S1 := Lib.hid ((s1.below hal).more hal.size)
 have S2 := Lib.hid ((s2.below hal).more hal.size)
 have H3 := Lib.hid (H2.out.trans (hal.mono H2.out.size))
 have hbl : BY.length ≤ 9223372036854775807 := by omega
 have hwl : WR.length ≤ 9223372036854775807 := by omega
 clear hb2 cc cl s1 s2 hal n3 n4 n1 n2 HA HP
 go_wp2_with fail
 generalize hw3 : w2.alloc (.cells #[.bool OB, .slice A1 BY.length cb, .slice A2 WR.length c2] 70) = w3 at B2 D2 S1 S2 H3 ⊢
 have h23 : w2.heap.size < w3.heap.size := D2.out.lt
 clear hw3
 go_loopw [10, 11, 12] (fun pv fv kk wr => ∃ (k : Nat) (pk fk : Bool), pv = .bool pk ∧ fv = .bool fk ∧ kk = .int .i64 k ∧ k ≤ ps.length ∧ Hid (pk = (ps.take k).any fun p => vt p == 1 && !fbQ p) ∧ Hid (fk = (ps.take k).any fun p => vt p == 1 && fbQ p) ∧ RowKit.Below w3.heap.size w3 wr) (fun _ _ kk _ => ps.length - (intOf kk).toNat)
 case atStart => exact ⟨0, false, false, rfl, rfl, rfl, by omega, Lib.hid rfl, Lib.hid rfl, RowKit.Below.refl _ _⟩
 case round =>
   obtain ⟨k, pk, fk, rfl, rfl, rfl, hk, HPK, HFK, hbr⟩ := hrel
   have hzr := hbr.size
   have Hwr : Hid (RowKit.Below w.heap.size w wr) := Lib.hid (H3.out.trans (hbr.mono H3.out.size))
   have D3 := Lib.hid (D2.out.below hbr D2.out.lt)
   have B3 := Lib.hid (B2.out.below hbr B2.out.lt)
   have T1 := Lib.hid ((S1.out.below hbr).more hbr.size)
   have T2 := Lib.hid ((S2.out.below hbr).more hbr.size)
   by_cases hlt : k < ps.length
   case neg =>
     have hkk : k = ps.length := by omega
     subst hkk
     rw [List.take_length] at HPK HFK
     have hob : OB = (pk && !fk) := by rw [HOB.out, HPK.out, HFK.out]
     have hby : decide (0 < BY.length) = (pk || fk) := by rw [HBYP.out, HPK.out, HFK.out]
     have dd := D3.out.cell
     have dl := D3.out.lt
     subst hob
     clear HPK HFK HOB HBYP hlt
     cases pk <;> cases fk <;> (
       simp only [Bool.or_true, Bool.or_false, Bool.and_true, Bool.and_false, Bool.not_true, Bool.not_false] at hby dd
       go_wp2_with fail
       go_ret
       exact ⟨rfl, Hwr.out⟩)
   obtain ⟨y, hy⟩ : ∃ y, ps[k]? = some y := ⟨_, List.getElem?_eq_getElem hlt⟩
   have hym := List.mem_of_getElem? hy
   obtain ⟨b, o, hA, hb, d0, d1, d2, d3, d4, d5, d6, d7, d8, d9, d10, d11, d12, d13, d14⟩ := poSl_cells (HPS.out.later Hwr.out).sl hy
   subst hA
   have i1 : (0 : Int) ≤ (k : Int) := by omega
   have i2 : (k : Int) < (ps.length : Int) := by omega
   have hpn := any_next (f := fun p => vt p == 1 && !fbQ p) hy
   have hfn := any_next (f := fun p => vt p == 1 && fbQ p) hy
   rw [← HPK.out] at hpn
   rw [← HFK.out] at hfn
   have hfq : fbQ y = y.p.forbid := rfl
   have hwry := HWR.out y hym
   have hbny := HBN.out y hym
   obtain ⟨V, hvt, hV, hVc⟩ := HV.out y hym
   have HXy := Lib.hid (HX.out _ Hwr.out y hym)
   have HVy := Lib.hid hVc
   rw [hvt] at hwry hbny
   simp only [hvt, hfq] at hpn hfn
   have hcs := vt_cases hV
   generalize (exprP y.p).1 = L at HXy HVy hV
   have HE1 := Lib.hid (fun W (hs : StrSl W W.heap.size A2 WR) => (HE.out W y.p.name WR A2 c2 hs hwl).mono fun _ _ h => And.intro h.1 h.2.symm)
   have HE2 := Lib.hid (fun W (hs : StrSl W W.heap.size A1 BY) => (HE.out W y.p.name BY A1 cb hs hbl).mono fun _ _ h => And.intro h.1 h.2.symm)
   have c0 : wr.cell? ⟨b, o + k * 15, none⟩ = some (.string y.p.name) := d0
   have c1 : wr.cell? ⟨b, o + k * 15 + 1, none⟩ = some (.bool y.p.forbid) := d1
   clear hVc hV hvt hfq HV HX HWR HBN HOB HBYP HPK HFK hym hy
   rcases hcs with ⟨B, rfl, hvv⟩ | ⟨z, rr, rfl, hz1, hvv⟩ | ⟨n, rfl, hn0, hvv⟩
   · rw [hvv] at hwry hbny
     simp only [hvv] at hpn hfn
     rw [show rsL (Rs.ok [bN B] : Rs (List Nd)) = [bN B] from rfl, show rsE (Rs.ok [bN B] : Rs (List Nd)) = 0 from rfl] at HVy
     clear hvv
     cases B
     · rw [show ((if false = true then (1 : Int) else 0) == -1) = false from rfl] at hwry
       rw [hwry] at HE1
       rw [hbny (by decide)] at HE2
       have HPN := Lib.hid (show pk = _ from (by rw [hpn]; simp : (ps.take (k + 1)).any (fun p => vt p == 1 && !fbQ p) = pk).symm)
       have HFN := Lib.hid (show fk = _ from (by rw [hfn]; simp : (ps.take (k + 1)).any (fun p => vt p == 1 && fbQ p) = fk).symm)
       clear hwry hbny hpn hfn
       have HSX : Hid (∀ W A1 A2 c1 c2, NdSl W W.heap.size A1 ([bN false]) → NdSl W W.heap.size A2 [trN true] → Calls Tryz.prog 20 #[.slice A1 ([bN false] : List Nd).length c1, .slice A2 [trN true].length c2] W fun r w' => r = .returned (.bool false) ∧ RowKit.Below W.heap.size W w') := by
         intro W A1 A2 c1 c2 q1 q2
         have h := sameX ([bN false]) [trN true] A1 A2 c1 c2 W q1 q2 (by simp)
         rw [show decide (([bN false] : List Nd) = [trN true]) = false by decide] at h
         exact h
       go_wp2_with fail
       refine HXy.out.mono ?_
       rintro r w4 ⟨A4, c4, rfl, hl4, hm4, hs4, hb4⟩
       have H4 := Lib.hid (Hwr.out.trans (hb4.mono Hwr.out.size))
       have B4 := Lib.hid (B3.out.below hb4 B3.out.lt)
       have HS4 := Lib.hid hs4
       have hbr4 := Lib.hid (hbr.trans (hb4.mono hzr))
       have hzb4 : wr.heap.size ≤ w4.heap.size := hb4.size
       have bcc := B4.out.cell
       have bcl := B4.out.lt
       have HB4 := Lib.hid hb4
       clear hb4 hs4 B3 HXy d0 d1 d2 d3 d4 d5 d6 d7 d8 d9 d10 d11 d12 d13 d14
       go_wp2_with fail
       refine (HVy.out _ H4.out A4 c4 HS4.out hl4 hm4).mono ?_
       rintro r w5 ⟨A5, c5, rfl, hl5, hm5, hs5, hb5, -⟩
       have HB5 := Lib.hid (HB4.out.trans (hb5.mono hzb4))
       have HS5 := Lib.hid hs5
       clear hb5 hs5 bcc bcl B4 HVy HS4 HB4 hbr4 H4
       go_wp2_with fail
       refine (HU.out true _).mono ?_
       rintro r w6 ⟨A6, c6, rfl, g6, hb6⟩
       have HS6 := Lib.hid ((HS5.out.below hb6).more hb6.size)
       have HG6 := Lib.hid g6.sl
       have HB6 := Lib.hid (HB5.out.trans (hb6.mono HB5.out.size))
       clear g6 hb6 HS5 HB5
       go_wp2_with fail
       refine (HSX.out w6 A5 A6 c5 c6 HS6.out HG6.out).mono ?_
       rintro r w7 ⟨rfl, hb7⟩
       have HB7 := Lib.hid (HB6.out.trans (hb7.mono HB6.out.size))
       have HS7 := Lib.hid ((HS6.out.below hb7).more hb7.size)
       clear hb7 HS6 HG6 HB6
       have e0 := cell_keep HB7.out hb c0
       have e1 := cell_keep HB7.out hb c1
       have D7 := Lib.hid (D3.out.below HB7.out D3.out.lt)
       have f1 : w7.cell? ⟨w2.heap.size, 1, none⟩ = some (.slice A1 BY.length cb) := D7.out.cell 1
       have f2 : w7.cell? ⟨w2.heap.size, 2, none⟩ = some (.slice A2 WR.length c2) := D7.out.cell 2
       have U1 := Lib.hid ((T1.out.below HB7.out).more HB7.out.size)
       have U2 := Lib.hid ((T2.out.below HB7.out).more HB7.out.size)
       have H7 := Lib.hid (hbr.trans (HB7.out.mono hzr))
       have G1 : Hid (∀ n, Calls Tryz.prog 36 #[.string y.p.name, .slice A2 WR.length c2] (w7.drewN n) fun e w'' => e = .returned (.bool false) ∧ ∃ m, w'' = w7.drewN m) := fun n => (HE1.out (w7.drewN n) (str_drewN U2.out n)).mono fun _ _ h => ⟨h.1, n, h.2⟩
       have G2 : Hid (∀ n, Calls Tryz.prog 36 #[.string y.p.name, .slice A1 BY.length cb] (w7.drewN n) fun e w'' => e = .returned (.bool false) ∧ ∃ m, w'' = w7.drewN m) := fun n => (HE2.out (w7.drewN n) (str_drewN U1.out n)).mono fun _ _ h => ⟨h.1, n, h.2⟩
       clear HE1 HE2 U1 U2 D7 D3
       obtain ⟨bv, ov, rfl, hbv, hcv⟩ := HS7.out (by simp)
       obtain ⟨v0, -, -, -⟩ := hcv 0 (bN false) rfl
       rw [Nat.zero_mul, Nat.add_zero] at v0
       replace v0 : w7.cell? ⟨bv, ov, none⟩ = some (.int .i64 1) := v0
       clear hcv
       clear HSX
       go_wp2_with fail
       go_quiet ((first | (go_at_call 36; with_reducible exact G1.out _) | (go_at_call 36; with_reducible exact G2.out _)))
       go_wp2_with fail
       exact ⟨⟨k + 1, pk, fk, rfl, rfl, by go_num, by omega, HPN, HFN, below_drewN H7.out _⟩, by simp [intOf]; omega⟩
     · rw [show ((if true = true then (1 : Int) else 0) == -1) = false from rfl] at hwry
       rw [hwry] at HE1
       simp only [if_true] at hpn hfn
       clear hwry hbny
       have HSX : Hid (∀ W A1 A2 c1 c2, NdSl W W.heap.size A1 ([bN true]) → NdSl W W.heap.size A2 [trN true] → Calls Tryz.prog 20 #[.slice A1 ([bN true] : List Nd).length c1, .slice A2 [trN true].length c2] W fun r w' => r = .returned (.bool true) ∧ RowKit.Below W.heap.size W w') := by
         intro W A1 A2 c1 c2 q1 q2
         have h := sameX ([bN true]) [trN true] A1 A2 c1 c2 W q1 q2 (by simp)
         rw [show decide (([bN true] : List Nd) = [trN true]) = true by decide] at h
         exact h
       obtain ⟨fb, hfb⟩ : ∃ fb, y.p.forbid = fb := ⟨_, rfl⟩
       rw [hfb] at c1 d1 hpn hfn HXy
       clear hfb
       cases fb
       · have HPN := Lib.hid (show true = _ from (by rw [hpn]; simp : (ps.take (k + 1)).any (fun p => vt p == 1 && !fbQ p) = true).symm)
         have HFN := Lib.hid (show fk = _ from (by rw [hfn]; simp : (ps.take (k + 1)).any (fun p => vt p == 1 && fbQ p) = fk).symm)
         clear hpn hfn
         generalize BY.contains y.p.name.toList = tb at HE2
         cases tb
         · go_wp2_with fail
           refine HXy.out.mono ?_
           rintro r w4 ⟨A4, c4, rfl, hl4, hm4, hs4, hb4⟩
           have H4 := Lib.hid (Hwr.out.trans (hb4.mono Hwr.out.size))
           have B4 := Lib.hid (B3.out.below hb4 B3.out.lt)
           have HS4 := Lib.hid hs4
           have hbr4 := Lib.hid (hbr.trans (hb4.mono hzr))
           have hzb4 : wr.heap.size ≤ w4.heap.size := hb4.size
           have bcc := B4.out.cell
           have bcl := B4.out.lt
           have HB4 := Lib.hid hb4
           clear hb4 hs4 B3 HXy d0 d1 d2 d3 d4 d5 d6 d7 d8 d9 d10 d11 d12 d13 d14
           go_wp2_with fail
           refine (HVy.out _ H4.out A4 c4 HS4.out hl4 hm4).mono ?_
           rintro r w5 ⟨A5, c5, rfl, hl5, hm5, hs5, hb5, -⟩
           have HB5 := Lib.hid (HB4.out.trans (hb5.mono hzb4))
           have HS5 := Lib.hid hs5
           clear hb5 hs5 bcc bcl B4 HVy HS4 HB4 hbr4 H4
           go_wp2_with fail
           refine (HU.out true _).mono ?_
           rintro r w6 ⟨A6, c6, rfl, g6, hb6⟩
           have HS6 := Lib.hid ((HS5.out.below hb6).more hb6.size)
           have HG6 := Lib.hid g6.sl
           have HB6 := Lib.hid (HB5.out.trans (hb6.mono HB5.out.size))
           clear g6 hb6 HS5 HB5
           go_wp2_with fail
           refine (HSX.out w6 A5 A6 c5 c6 HS6.out HG6.out).mono ?_
           rintro r w7 ⟨rfl, hb7⟩
           have HB7 := Lib.hid (HB6.out.trans (hb7.mono HB6.out.size))
           have HS7 := Lib.hid ((HS6.out.below hb7).more hb7.size)
           clear hb7 HS6 HG6 HB6
           have e0 := cell_keep HB7.out hb c0
           have e1 := cell_keep HB7.out hb c1
           have D7 := Lib.hid (D3.out.below HB7.out D3.out.lt)
           have f1 : w7.cell? ⟨w2.heap.size, 1, none⟩ = some (.slice A1 BY.length cb) := D7.out.cell 1
           have f2 : w7.cell? ⟨w2.heap.size, 2, none⟩ = some (.slice A2 WR.length c2) := D7.out.cell 2
           have U1 := Lib.hid ((T1.out.below HB7.out).more HB7.out.size)
           have U2 := Lib.hid ((T2.out.below HB7.out).more HB7.out.size)
           have H7 := Lib.hid (hbr.trans (HB7.out.mono hzr))
           have G1 : Hid (∀ n, Calls Tryz.prog 36 #[.string y.p.name, .slice A2 WR.length c2] (w7.drewN n) fun e w'' => e = .returned (.bool false) ∧ ∃ m, w'' = w7.drewN m) := fun n => (HE1.out (w7.drewN n) (str_drewN U2.out n)).mono fun _ _ h => ⟨h.1, n, h.2⟩
           have G2 : Hid (∀ n, Calls Tryz.prog 36 #[.string y.p.name, .slice A1 BY.length cb] (w7.drewN n) fun e w'' => e = .returned (.bool false) ∧ ∃ m, w'' = w7.drewN m) := fun n => (HE2.out (w7.drewN n) (str_drewN U1.out n)).mono fun _ _ h => ⟨h.1, n, h.2⟩
           clear HE1 HE2 U1 U2 D7 D3
           obtain ⟨bv, ov, rfl, hbv, hcv⟩ := HS7.out (by simp)
           obtain ⟨v0, -, -, -⟩ := hcv 0 (bN true) rfl
           rw [Nat.zero_mul, Nat.add_zero] at v0
           replace v0 : w7.cell? ⟨bv, ov, none⟩ = some (.int .i64 1) := v0
           clear hcv
           clear HSX
           go_wp2_with fail
           go_quiet ((first | (go_at_call 36; with_reducible exact G1.out _) | (go_at_call 36; with_reducible exact G2.out _)))
           go_wp2_with fail
           exact ⟨⟨k + 1, true, fk, rfl, rfl, by go_num, by omega, HPN, HFN, below_drewN H7.out _⟩, by simp [intOf]; omega⟩
         · go_wp2_with fail
           refine HXy.out.mono ?_
           rintro r w4 ⟨A4, c4, rfl, hl4, hm4, hs4, hb4⟩
           have H4 := Lib.hid (Hwr.out.trans (hb4.mono Hwr.out.size))
           have B4 := Lib.hid (B3.out.below hb4 B3.out.lt)
           have HS4 := Lib.hid hs4
           have hbr4 := Lib.hid (hbr.trans (hb4.mono hzr))
           have hzb4 : wr.heap.size ≤ w4.heap.size := hb4.size
           have bcc := B4.out.cell
           have bcl := B4.out.lt
           have HB4 := Lib.hid hb4
           clear hb4 hs4 B3 HXy d0 d1 d2 d3 d4 d5 d6 d7 d8 d9 d10 d11 d12 d13 d14
           go_wp2_with fail
           refine (HVy.out _ H4.out A4 c4 HS4.out hl4 hm4).mono ?_
           rintro r w5 ⟨A5, c5, rfl, hl5, hm5, hs5, hb5, -⟩
           have HB5 := Lib.hid (HB4.out.trans (hb5.mono hzb4))
           have HS5 := Lib.hid hs5
           clear hb5 hs5 bcc bcl B4 HVy HS4 HB4 hbr4 H4
           go_wp2_with fail
           refine (HU.out true _).mono ?_
           rintro r w6 ⟨A6, c6, rfl, g6, hb6⟩
           have HS6 := Lib.hid ((HS5.out.below hb6).more hb6.size)
           have HG6 := Lib.hid g6.sl
           have HB6 := Lib.hid (HB5.out.trans (hb6.mono HB5.out.size))
           clear g6 hb6 HS5 HB5
           go_wp2_with fail
           refine (HSX.out w6 A5 A6 c5 c6 HS6.out HG6.out).mono ?_
           rintro r w7 ⟨rfl, hb7⟩
           have HB7 := Lib.hid (HB6.out.trans (hb7.mono HB6.out.size))
           have HS7 := Lib.hid ((HS6.out.below hb7).more hb7.size)
           clear hb7 HS6 HG6 HB6
           have e0 := cell_keep HB7.out hb c0
           have e1 := cell_keep HB7.out hb c1
           have D7 := Lib.hid (D3.out.below HB7.out D3.out.lt)
           have f1 : w7.cell? ⟨w2.heap.size, 1, none⟩ = some (.slice A1 BY.length cb) := D7.out.cell 1
           have f2 : w7.cell? ⟨w2.heap.size, 2, none⟩ = some (.slice A2 WR.length c2) := D7.out.cell 2
           have U1 := Lib.hid ((T1.out.below HB7.out).more HB7.out.size)
           have U2 := Lib.hid ((T2.out.below HB7.out).more HB7.out.size)
           have H7 := Lib.hid (hbr.trans (HB7.out.mono hzr))
           have G1 : Hid (∀ n, Calls Tryz.prog 36 #[.string y.p.name, .slice A2 WR.length c2] (w7.drewN n) fun e w'' => e = .returned (.bool false) ∧ ∃ m, w'' = w7.drewN m) := fun n => (HE1.out (w7.drewN n) (str_drewN U2.out n)).mono fun _ _ h => ⟨h.1, n, h.2⟩
           have G2 : Hid (∀ n, Calls Tryz.prog 36 #[.string y.p.name, .slice A1 BY.length cb] (w7.drewN n) fun e w'' => e = .returned (.bool true) ∧ ∃ m, w'' = w7.drewN m) := fun n => (HE2.out (w7.drewN n) (str_drewN U1.out n)).mono fun _ _ h => ⟨h.1, n, h.2⟩
           clear HE1 HE2 U1 U2 D7 D3
           obtain ⟨bv, ov, rfl, hbv, hcv⟩ := HS7.out (by simp)
           obtain ⟨v0, -, -, -⟩ := hcv 0 (bN true) rfl
           rw [Nat.zero_mul, Nat.add_zero] at v0
           replace v0 : w7.cell? ⟨bv, ov, none⟩ = some (.int .i64 1) := v0
           clear hcv
           clear HSX
           go_wp2_with fail
           go_quiet ((first | (go_at_call 36; with_reducible exact G1.out _) | (go_at_call 36; with_reducible exact G2.out _)))
           go_wp2_with fail
           exact ⟨⟨k + 1, true, fk, rfl, rfl, by go_num, by omega, HPN, HFN, below_drewN H7.out _⟩, by simp [intOf]; omega⟩
       · have HPN := Lib.hid (show pk = _ from (by rw [hpn]; simp : (ps.take (k + 1)).any (fun p => vt p == 1 && !fbQ p) = pk).symm)
         have HFN := Lib.hid (show true = _ from (by rw [hfn]; simp : (ps.take (k + 1)).any (fun p => vt p == 1 && fbQ p) = true).symm)
         clear hpn hfn
         generalize BY.contains y.p.name.toList = tb at HE2
         cases tb
         · go_wp2_with fail
           refine HXy.out.mono ?_
           rintro r w4 ⟨A4, c4, rfl, hl4, hm4, hs4, hb4⟩
           have H4 := Lib.hid (Hwr.out.trans (hb4.mono Hwr.out.size))
           have B4 := Lib.hid (B3.out.below hb4 B3.out.lt)
           have HS4 := Lib.hid hs4
           have hbr4 := Lib.hid (hbr.trans (hb4.mono hzr))
           have hzb4 : wr.heap.size ≤ w4.heap.size := hb4.size
           have bcc := B4.out.cell
           have bcl := B4.out.lt
           have HB4 := Lib.hid hb4
           clear hb4 hs4 B3 HXy d0 d1 d2 d3 d4 d5 d6 d7 d8 d9 d10 d11 d12 d13 d14
           go_wp2_with fail
           refine (HVy.out _ H4.out A4 c4 HS4.out hl4 hm4).mono ?_
           rintro r w5 ⟨A5, c5, rfl, hl5, hm5, hs5, hb5, -⟩
           have HB5 := Lib.hid (HB4.out.trans (hb5.mono hzb4))
           have HS5 := Lib.hid hs5
           clear hb5 hs5 bcc bcl B4 HVy HS4 HB4 hbr4 H4
           go_wp2_with fail
           refine (HU.out true _).mono ?_
           rintro r w6 ⟨A6, c6, rfl, g6, hb6⟩
           have HS6 := Lib.hid ((HS5.out.below hb6).more hb6.size)
           have HG6 := Lib.hid g6.sl
           have HB6 := Lib.hid (HB5.out.trans (hb6.mono HB5.out.size))
           clear g6 hb6 HS5 HB5
           go_wp2_with fail
           refine (HSX.out w6 A5 A6 c5 c6 HS6.out HG6.out).mono ?_
           rintro r w7 ⟨rfl, hb7⟩
           have HB7 := Lib.hid (HB6.out.trans (hb7.mono HB6.out.size))
           have HS7 := Lib.hid ((HS6.out.below hb7).more hb7.size)
           clear hb7 HS6 HG6 HB6
           have e0 := cell_keep HB7.out hb c0
           have e1 := cell_keep HB7.out hb c1
           have D7 := Lib.hid (D3.out.below HB7.out D3.out.lt)
           have f1 : w7.cell? ⟨w2.heap.size, 1, none⟩ = some (.slice A1 BY.length cb) := D7.out.cell 1
           have f2 : w7.cell? ⟨w2.heap.size, 2, none⟩ = some (.slice A2 WR.length c2) := D7.out.cell 2
           have U1 := Lib.hid ((T1.out.below HB7.out).more HB7.out.size)
           have U2 := Lib.hid ((T2.out.below HB7.out).more HB7.out.size)
           have H7 := Lib.hid (hbr.trans (HB7.out.mono hzr))
           have G1 : Hid (∀ n, Calls Tryz.prog 36 #[.string y.p.name, .slice A2 WR.length c2] (w7.drewN n) fun e w'' => e = .returned (.bool false) ∧ ∃ m, w'' = w7.drewN m) := fun n => (HE1.out (w7.drewN n) (str_drewN U2.out n)).mono fun _ _ h => ⟨h.1, n, h.2⟩
           have G2 : Hid (∀ n, Calls Tryz.prog 36 #[.string y.p.name, .slice A1 BY.length cb] (w7.drewN n) fun e w'' => e = .returned (.bool false) ∧ ∃ m, w'' = w7.drewN m) := fun n => (HE2.out (w7.drewN n) (str_drewN U1.out n)).mono fun _ _ h => ⟨h.1, n, h.2⟩
           clear HE1 HE2 U1 U2 D7 D3
           obtain ⟨bv, ov, rfl, hbv, hcv⟩ := HS7.out (by simp)
           obtain ⟨v0, -, -, -⟩ := hcv 0 (bN true) rfl
           rw [Nat.zero_mul, Nat.add_zero] at v0
           replace v0 : w7.cell? ⟨bv, ov, none⟩ = some (.int .i64 1) := v0
           clear hcv
           clear HSX
           go_wp2_with fail
           go_quiet ((first | (go_at_call 36; with_reducible exact G1.out _) | (go_at_call 36; with_reducible exact G2.out _)))
           go_wp2_with fail
           exact ⟨⟨k + 1, pk, true, rfl, rfl, by go_num, by omega, HPN, HFN, below_drewN H7.out _⟩, by simp [intOf]; omega⟩
         · go_wp2_with fail
           refine HXy.out.mono ?_
           rintro r w4 ⟨A4, c4, rfl, hl4, hm4, hs4, hb4⟩
           have H4 := Lib.hid (Hwr.out.trans (hb4.mono Hwr.out.size))
           have B4 := Lib.hid (B3.out.below hb4 B3.out.lt)
           have HS4 := Lib.hid hs4
           have hbr4 := Lib.hid (hbr.trans (hb4.mono hzr))
           have hzb4 : wr.heap.size ≤ w4.heap.size := hb4.size
           have bcc := B4.out.cell
           have bcl := B4.out.lt
           have HB4 := Lib.hid hb4
           clear hb4 hs4 B3 HXy d0 d1 d2 d3 d4 d5 d6 d7 d8 d9 d10 d11 d12 d13 d14
           go_wp2_with fail
           refine (HVy.out _ H4.out A4 c4 HS4.out hl4 hm4).mono ?_
           rintro r w5 ⟨A5, c5, rfl, hl5, hm5, hs5, hb5, -⟩
           have HB5 := Lib.hid (HB4.out.trans (hb5.mono hzb4))
           have HS5 := Lib.hid hs5
           clear hb5 hs5 bcc bcl B4 HVy HS4 HB4 hbr4 H4
           go_wp2_with fail
           refine (HU.out true _).mono ?_
           rintro r w6 ⟨A6, c6, rfl, g6, hb6⟩
           have HS6 := Lib.hid ((HS5.out.below hb6).more hb6.size)
           have HG6 := Lib.hid g6.sl
           have HB6 := Lib.hid (HB5.out.trans (hb6.mono HB5.out.size))
           clear g6 hb6 HS5 HB5
           go_wp2_with fail
           refine (HSX.out w6 A5 A6 c5 c6 HS6.out HG6.out).mono ?_
           rintro r w7 ⟨rfl, hb7⟩
           have HB7 := Lib.hid (HB6.out.trans (hb7.mono HB6.out.size))
           have HS7 := Lib.hid ((HS6.out.below hb7).more hb7.size)
           clear hb7 HS6 HG6 HB6
           have e0 := cell_keep HB7.out hb c0
           have e1 := cell_keep HB7.out hb c1
           have D7 := Lib.hid (D3.out.below HB7.out D3.out.lt)
           have f1 : w7.cell? ⟨w2.heap.size, 1, none⟩ = some (.slice A1 BY.length cb) := D7.out.cell 1
           have f2 : w7.cell? ⟨w2.heap.size, 2, none⟩ = some (.slice A2 WR.length c2) := D7.out.cell 2
           have U1 := Lib.hid ((T1.out.below HB7.out).more HB7.out.size)
           have U2 := Lib.hid ((T2.out.below HB7.out).more HB7.out.size)
           have H7 := Lib.hid (hbr.trans (HB7.out.mono hzr))
           have G1 : Hid (∀ n, Calls Tryz.prog 36 #[.string y.p.name, .slice A2 WR.length c2] (w7.drewN n) fun e w'' => e = .returned (.bool false) ∧ ∃ m, w'' = w7.drewN m) := fun n => (HE1.out (w7.drewN n) (str_drewN U2.out n)).mono fun _ _ h => ⟨h.1, n, h.2⟩
           have G2 : Hid (∀ n, Calls Tryz.prog 36 #[.string y.p.name, .slice A1 BY.length cb] (w7.drewN n) fun e w'' => e = .returned (.bool true) ∧ ∃ m, w'' = w7.drewN m) := fun n => (HE2.out (w7.drewN n) (str_drewN U1.out n)).mono fun _ _ h => ⟨h.1, n, h.2⟩
           clear HE1 HE2 U1 U2 D7 D3
           obtain ⟨bv, ov, rfl, hbv, hcv⟩ := HS7.out (by simp)
           obtain ⟨v0, -, -, -⟩ := hcv 0 (bN true) rfl
           rw [Nat.zero_mul, Nat.add_zero] at v0
           replace v0 : w7.cell? ⟨bv, ov, none⟩ = some (.int .i64 1) := v0
           clear hcv
           clear HSX
           go_wp2_with fail
           go_quiet ((first | (go_at_call 36; with_reducible exact G1.out _) | (go_at_call 36; with_reducible exact G2.out _)))
           go_wp2_with fail
           exact ⟨⟨k + 1, pk, true, rfl, rfl, by go_num, by omega, HPN, HFN, below_drewN H7.out _⟩, by simp [intOf]; omega⟩
   · have hzt : (z.op != 1) = true := by simpa using hz1
     rw [hvv] at hwry hbny
     simp only [hvv] at hpn hfn
     rw [show rsL (Rs.ok (z :: rr) : Rs (List Nd)) = z :: rr from rfl, show rsE (Rs.ok (z :: rr) : Rs (List Nd)) = 0 from rfl] at HVy
     have HPN := Lib.hid (show pk = _ from (by rw [hpn]; simp : (ps.take (k + 1)).any (fun p => vt p == 1 && !fbQ p) = pk).symm)
     have HFN := Lib.hid (show fk = _ from (by rw [hfn]; simp : (ps.take (k + 1)).any (fun p => vt p == 1 && fbQ p) = fk).symm)
     rw [show ((-1 : Int) == -1) = true from rfl] at hwry
     rw [hwry] at HE1
     rw [hbny (by decide)] at HE2
     have HLZ : Hid (∀ W A1, NdSl W W.heap.size A1 (z :: rr) → ∀ c, (z :: rr).length ≤ c → c ≤ 9223372036854775807 → (z :: rr).length ≤ 9223372036854775807) := fun _ _ _ _ h1 h2 => Nat.le_trans h1 h2
     have HSX : Hid (∀ W A1 A2 c1 c2, (z :: rr).length ≤ 9223372036854775807 → NdSl W W.heap.size A1 (z :: rr) → NdSl W W.heap.size A2 [trN true] → Calls Tryz.prog 20 #[.slice A1 (z :: rr : List Nd).length c1, .slice A2 [trN true].length c2] W fun r w' => r = .returned (.bool false) ∧ RowKit.Below W.heap.size W w') := by
       intro W A1 A2 c1 c2 ql q1 q2
       have h := sameX (z :: rr) [trN true] A1 A2 c1 c2 W q1 q2 ql
       rw [show decide ((z :: rr : List Nd) = [trN true]) = false by (simp only [decide_eq_false_iff_not]; intro e; injection e with e; rw [e] at hz1; exact hz1 rfl)] at h
       exact h
     clear hvv hwry hbny hz1 HLZ hpn hfn
     go_wp2_with fail
     refine HXy.out.mono ?_
     rintro r w4 ⟨A4, c4, rfl, hl4, hm4, hs4, hb4⟩
     have H4 := Lib.hid (Hwr.out.trans (hb4.mono Hwr.out.size))
     have B4 := Lib.hid (B3.out.below hb4 B3.out.lt)
     have HS4 := Lib.hid hs4
     have hbr4 := Lib.hid (hbr.trans (hb4.mono hzr))
     have hzb4 : wr.heap.size ≤ w4.heap.size := hb4.size
     have bcc := B4.out.cell
     have bcl := B4.out.lt
     have HB4 := Lib.hid hb4
     clear hb4 hs4 B3 HXy d0 d1 d2 d3 d4 d5 d6 d7 d8 d9 d10 d11 d12 d13 d14
     go_wp2_with fail
     refine (HVy.out _ H4.out A4 c4 HS4.out hl4 hm4).mono ?_
     rintro r w5 ⟨A5, c5, rfl, hl5, hm5, hs5, hb5, -⟩
     have HB5 := Lib.hid (HB4.out.trans (hb5.mono hzb4))
     have HS5 := Lib.hid hs5
     clear hb5 hs5 bcc bcl B4 HVy HS4 HB4 hbr4 H4
     go_wp2_with fail
     refine (HU.out true _).mono ?_
     rintro r w6 ⟨A6, c6, rfl, g6, hb6⟩
     have HS6 := Lib.hid ((HS5.out.below hb6).more hb6.size)
     have HG6 := Lib.hid g6.sl
     have HB6 := Lib.hid (HB5.out.trans (hb6.mono HB5.out.size))
     clear g6 hb6 HS5 HB5
     go_wp2_with fail
     refine (HSX.out w6 A5 A6 c5 c6 (Nat.le_trans hl5 hm5) HS6.out HG6.out).mono ?_
     rintro r w7 ⟨rfl, hb7⟩
     have HB7 := Lib.hid (HB6.out.trans (hb7.mono HB6.out.size))
     have HS7 := Lib.hid ((HS6.out.below hb7).more hb7.size)
     clear hb7 HS6 HG6 HB6
     have e0 := cell_keep HB7.out hb c0
     have e1 := cell_keep HB7.out hb c1
     have D7 := Lib.hid (D3.out.below HB7.out D3.out.lt)
     have f1 : w7.cell? ⟨w2.heap.size, 1, none⟩ = some (.slice A1 BY.length cb) := D7.out.cell 1
     have f2 : w7.cell? ⟨w2.heap.size, 2, none⟩ = some (.slice A2 WR.length c2) := D7.out.cell 2
     have U1 := Lib.hid ((T1.out.below HB7.out).more HB7.out.size)
     have U2 := Lib.hid ((T2.out.below HB7.out).more HB7.out.size)
     have H7 := Lib.hid (hbr.trans (HB7.out.mono hzr))
     have G1 : Hid (∀ n, Calls Tryz.prog 36 #[.string y.p.name, .slice A2 WR.length c2] (w7.drewN n) fun e w'' => e = .returned (.bool true) ∧ ∃ m, w'' = w7.drewN m) := fun n => (HE1.out (w7.drewN n) (str_drewN U2.out n)).mono fun _ _ h => ⟨h.1, n, h.2⟩
     have G2 : Hid (∀ n, Calls Tryz.prog 36 #[.string y.p.name, .slice A1 BY.length cb] (w7.drewN n) fun e w'' => e = .returned (.bool false) ∧ ∃ m, w'' = w7.drewN m) := fun n => (HE2.out (w7.drewN n) (str_drewN U1.out n)).mono fun _ _ h => ⟨h.1, n, h.2⟩
     clear HE1 HE2 U1 U2 D7 D3
     obtain ⟨bv, ov, rfl, hbv, hcv⟩ := HS7.out (by simp)
     obtain ⟨v0, -, -, -⟩ := hcv 0 z rfl
     rw [Nat.zero_mul, Nat.add_zero] at v0
     clear hcv
     clear HSX
     go_wp2_with fail
     go_quiet ((first | (go_at_call 36; with_reducible exact G1.out _) | (go_at_call 36; with_reducible exact G2.out _)))
     go_wp2_with fail
     exact ⟨⟨k + 1, pk, fk, rfl, rfl, by go_num, by omega, HPN, HFN, below_drewN H7.out _⟩, by simp [intOf]; omega⟩
   · have hnt : (n != 0) = true := by simpa using hn0
     rw [hvv] at hwry hbny
     simp only [hvv] at hpn hfn
     rw [show rsL (Rs.bad n : Rs (List Nd)) = [] from rfl, show rsE (Rs.bad n : Rs (List Nd)) = n from rfl] at HVy
     have HPN := Lib.hid (show pk = _ from (by rw [hpn]; simp : (ps.take (k + 1)).any (fun p => vt p == 1 && !fbQ p) = pk).symm)
     have HFN := Lib.hid (show fk = _ from (by rw [hfn]; simp : (ps.take (k + 1)).any (fun p => vt p == 1 && fbQ p) = fk).symm)
     rw [show ((-1 : Int) == -1) = true from rfl] at hwry
     rw [hwry] at HE1
     rw [hbny (by decide)] at HE2
     clear hvv hwry hbny hn0 hpn hfn
     have HSX : Hid (∀ W A1 A2 c1 c2, NdSl W W.heap.size A1 ([]) → NdSl W W.heap.size A2 [trN true] → Calls Tryz.prog 20 #[.slice A1 ([] : List Nd).length c1, .slice A2 [trN true].length c2] W fun r w' => r = .returned (.bool false) ∧ RowKit.Below W.heap.size W w') := by
       intro W A1 A2 c1 c2 q1 q2
       have h := sameX ([]) [trN true] A1 A2 c1 c2 W q1 q2 (by simp)
       rw [show decide (([] : List Nd) = [trN true]) = false by simp] at h
       exact h
     go_wp2_with fail
     refine HXy.out.mono ?_
     rintro r w4 ⟨A4, c4, rfl, hl4, hm4, hs4, hb4⟩
     have H4 := Lib.hid (Hwr.out.trans (hb4.mono Hwr.out.size))
     have B4 := Lib.hid (B3.out.below hb4 B3.out.lt)
     have HS4 := Lib.hid hs4
     have hbr4 := Lib.hid (hbr.trans (hb4.mono hzr))
     have hzb4 : wr.heap.size ≤ w4.heap.size := hb4.size
     have bcc := B4.out.cell
     have bcl := B4.out.lt
     have HB4 := Lib.hid hb4
     clear hb4 hs4 B3 HXy d0 d1 d2 d3 d4 d5 d6 d7 d8 d9 d10 d11 d12 d13 d14
     go_wp2_with fail
     refine (HVy.out _ H4.out A4 c4 HS4.out hl4 hm4).mono ?_
     rintro r w5 ⟨A5, c5, rfl, hl5, hm5, hs5, hb5, -⟩
     have HB5 := Lib.hid (HB4.out.trans (hb5.mono hzb4))
     have HS5 := Lib.hid hs5
     clear hb5 hs5 bcc bcl B4 HVy HS4 HB4 hbr4 H4
     go_wp2_with fail
     refine (HU.out true _).mono ?_
     rintro r w6 ⟨A6, c6, rfl, g6, hb6⟩
     have HS6 := Lib.hid ((HS5.out.below hb6).more hb6.size)
     have HG6 := Lib.hid g6.sl
     have HB6 := Lib.hid (HB5.out.trans (hb6.mono HB5.out.size))
     clear g6 hb6 HS5 HB5
     go_wp2_with fail
     refine (HSX.out w6 A5 A6 c5 c6 HS6.out HG6.out).mono ?_
     rintro r w7 ⟨rfl, hb7⟩
     have HB7 := Lib.hid (HB6.out.trans (hb7.mono HB6.out.size))
     have HS7 := Lib.hid ((HS6.out.below hb7).more hb7.size)
     clear hb7 HS6 HG6 HB6
     have e0 := cell_keep HB7.out hb c0
     have e1 := cell_keep HB7.out hb c1
     have D7 := Lib.hid (D3.out.below HB7.out D3.out.lt)
     have f1 : w7.cell? ⟨w2.heap.size, 1, none⟩ = some (.slice A1 BY.length cb) := D7.out.cell 1
     have f2 : w7.cell? ⟨w2.heap.size, 2, none⟩ = some (.slice A2 WR.length c2) := D7.out.cell 2
     have U1 := Lib.hid ((T1.out.below HB7.out).more HB7.out.size)
     have U2 := Lib.hid ((T2.out.below HB7.out).more HB7.out.size)
     have H7 := Lib.hid (hbr.trans (HB7.out.mono hzr))
     have G1 : Hid (∀ n, Calls Tryz.prog 36 #[.string y.p.name, .slice A2 WR.length c2] (w7.drewN n) fun e w'' => e = .returned (.bool true) ∧ ∃ m, w'' = w7.drewN m) := fun n => (HE1.out (w7.drewN n) (str_drewN U2.out n)).mono fun _ _ h => ⟨h.1, n, h.2⟩
     have G2 : Hid (∀ n, Calls Tryz.prog 36 #[.string y.p.name, .slice A1 BY.length cb] (w7.drewN n) fun e w'' => e = .returned (.bool false) ∧ ∃ m, w'' = w7.drewN m) := fun n => (HE2.out (w7.drewN n) (str_drewN U1.out n)).mono fun _ _ h => ⟨h.1, n, h.2⟩
     clear HE1 HE2 U1 U2 D7 D3
     clear HSX
     go_wp2_with fail
     go_quiet ((first | (go_at_call 36; with_reducible exact G1.out _) | (go_at_call 36; with_reducible exact G2.out _)))
     go_wp2_with fail
     exact ⟨⟨k + 1, pk, fk, rfl, rfl, by go_num, by omega, HPN, HFN, below_drewN H7.out _⟩, by simp [intOf]; omega⟩
theorem law_trumps (x : Aq) (ps : List PoM) (A : Option Addr) (c : Nat) (w : World) (hI : AqIn x w) (hP : PosIn w A ps) :
   Calls Tryz.prog 7 #[.slice x.Ea x.hs.length x.ec, .slice A ps.length c, .agg #[.string x.q.who.ty, .string x.q.who.id, .string x.q.act.ty, .string x.q.act.id, .string x.q.what.ty, .string x.q.what.id, .slice x.qa x.q.ctx.length x.qc]] w fun r w' => r = .returned (.bool true) ∧ RowKit.Below w.heap.size w w' := by
 by_cases hk : askErr x ps = 0
 · exact law_tr_ok x ps A c w hI hP hk
 · exact law_tr_bad x ps A c w hI hP hk
end Go.Proofs.YtpheiojmcafolaaGreatDoor
