/-
  THE WALK of the law AuthMore (printed by mklawmo.py).
  FIVE ARGUMENTS of a row.
-/
import Derived.Test.YtpheiojmcafolaaGreatDoorAw23
import Derived.Test.YtpheiojmcafolaaGreatDoorAw01
namespace Go.Proofs.YtpheiojmcafolaaGreatDoor
set_option maxRecDepth 100000
open Go.RowKit Go.Sort
theorem blk_new {W : World} {g : Nat} (h : W.heap.size = g) (T : TypeId) (cs : Array Value) : Blk (W.alloc (.cells cs T)) g T cs := h ▸ Blk.new W T cs
def aOB (x : Aq) (ps : List PoM) : Bool := if askErr x ps = 0 then allowP nmQ fbQ (vtQ x.es x.q) ps else false
def aBY (x : Aq) (ps : List PoM) : List (List UInt8) := if askErr x ps = 0 then byP nmQ fbQ (vtQ x.es x.q) ps else []
def aWR (x : Aq) (ps : List PoM) : List (List UInt8) := if askErr x ps = 0 then wrongs nmQ (vtQ x.es x.q) ps else []
theorem auth_Ask (x : Aq) (ps : List PoM) (A : Option Addr) (c : Nat) (w : World) (hI : AqIn x w) (hP : PosIn w A ps) :
   Calls Tryz.prog 34 #[.slice x.Ea x.hs.length x.ec, .slice A ps.length c, .agg #[.string x.q.who.ty, .string x.q.who.id, .string x.q.act.ty, .string x.q.act.id, .string x.q.what.ty, .string x.q.what.id, .slice x.qa x.q.ctx.length x.qc]] w fun r w' => AnsBack w r w' (aOB x ps) (aBY x ps) (aWR x ps) (askErr x ps) := by
 unfold aOB aBY aWR
 by_cases hk : askErr x ps = 0
 · rw [if_pos hk, if_pos hk, if_pos hk]
   have := auth_Ask_ok x ps A c w hI hP hk
   rw [hk]; exact this
 · rw [if_neg hk, if_neg hk, if_neg hk]; exact auth_Ask_bad x ps A c w hI hP hk
theorem more_law (x : Aq) (ps : List PoM) (y : PoM) (h1 : askErr x ps = 0) (h2 : askErr x (ps ++ [y]) = 0) :
   (y.p.forbid = true → aOB x ps = true ∨ aOB x (ps ++ [y]) = false) ∧ (y.p.forbid = false → aOB x ps = false ∨ aOB x (ps ++ [y]) = true) := by
 unfold aOB
 rw [if_pos h1, if_pos h2]
 refine ⟨fun hf => ?_, fun hf => ?_⟩
 · cases h : allowP nmQ fbQ (vtQ x.es x.q) (ps ++ [y]) with
   | false => exact .inr rfl
   | true => exact .inl (more_forbid (p := y) hf h)
 · cases h : allowP nmQ fbQ (vtQ x.es x.q) ps with
   | false => exact .inl rfl
   | true => exact .inr (more_permit (p := y) hf h)
theorem PoRow.pos {ps : List PoM} {y : PoM} {w1 w : World} {A : Option Addr} {n c : Nat} (h : PoRow (ps ++ [y]) w1 (.slice A n c) w) (h0 : ∀ z ∈ ps ++ [y], PoMOk w w.heap.size z) : PosIn w A (ps ++ [y]) := by
 obtain ⟨-, As, cs, e1, -, -, hsl⟩ := own_formG pom_ok h.own
 injection e1 with e1
 subst e1
 exact ⟨hsl, h0⟩
set_option maxHeartbeats 25600000 in
theorem law_more (x : Aq) (ps : List PoM) (A : Option Addr) (c : Nat) (y : PoM) (w : World) (hI : AqIn x w) (hP : PosIn w A ps) (hY : PoMOk w w.heap.size y) (hn : ps.length * 216 ≤ reachBytes) :
   Calls Tryz.prog 8 #[.slice x.Ea x.hs.length x.ec, .slice A ps.length c, .agg #[.string x.q.who.ty, .string x.q.who.id, .string x.q.act.ty, .string x.q.act.id, .string x.q.what.ty, .string x.q.what.id, .slice x.qa x.q.ctx.length x.qc], .agg #[.string y.p.name, .bool y.p.forbid, .int .i64 y.p.who.op, .string y.p.who.ty, .string y.p.who.uid.ty, .string y.p.who.uid.id, .int .i64 y.p.act.op, .string y.p.act.ty, .string y.p.act.uid.ty, .string y.p.act.uid.id, .int .i64 y.p.what.op, .string y.p.what.ty, .string y.p.what.uid.ty, .string y.p.what.uid.id, .slice y.A y.cs.length y.c]] w fun r w' => r = .returned (.bool true) ∧ RowKit.Below w.heap.size w w' := by
 have B1 := Lib.hid (Blk.new (w.alloc (.cells #[.string x.q.who.ty, .string x.q.who.id, .string x.q.act.ty, .string x.q.act.id, .string x.q.what.ty, .string x.q.what.id, .slice x.qa x.q.ctx.length x.qc] 39)) 47 #[.string y.p.name, .bool y.p.forbid, .int .i64 y.p.who.op, .string y.p.who.ty, .string y.p.who.uid.ty, .string y.p.who.uid.id, .int .i64 y.p.act.op, .string y.p.act.ty, .string y.p.act.uid.ty, .string y.p.act.uid.id, .int .i64 y.p.what.op, .string y.p.what.ty, .string y.p.what.uid.ty, .string y.p.what.uid.id, .slice y.A y.cs.length y.c])
 have B0 := Lib.hid ((Blk.new w 39 #[.string x.q.who.ty, .string x.q.who.id, .string x.q.act.ty, .string x.q.act.id, .string x.q.what.ty, .string x.q.what.id, .slice x.qa x.q.ctx.length x.qc]).alloc (.cells #[.string y.p.name, .bool y.p.forbid, .int .i64 y.p.who.op, .string y.p.who.ty, .string y.p.who.uid.ty, .string y.p.who.uid.id, .int .i64 y.p.act.op, .string y.p.act.ty, .string y.p.act.uid.ty, .string y.p.act.uid.id, .int .i64 y.p.what.op, .string y.p.what.ty, .string y.p.what.uid.ty, .string y.p.what.uid.id, .slice y.A y.cs.length y.c] 47))
 have h0 : RowKit.Below w.heap.size w ((w.alloc (.cells #[.string x.q.who.ty, .string x.q.who.id, .string x.q.act.ty, .string x.q.act.id, .string x.q.what.ty, .string x.q.what.id, .slice x.qa x.q.ctx.length x.qc] 39)).alloc (.cells #[.string y.p.name, .bool y.p.forbid, .int .i64 y.p.who.op, .string y.p.who.ty, .string y.p.who.uid.ty, .string y.p.who.uid.id, .int .i64 y.p.act.op, .string y.p.act.ty, .string y.p.act.uid.ty, .string y.p.act.uid.id, .int .i64 y.p.what.op, .string y.p.what.ty, .string y.p.what.uid.ty, .string y.p.what.uid.id, .slice y.A y.cs.length y.c] 47)) := by (repeat (first | assumption | exact Below.refl _ _ | apply Below.drew | apply below_drewN | (refine Below.alloc ?_ (by first | exact Nat.le_refl _ | omega | (simp; done) | (simp; omega)) _)))
 have H0 := Lib.hid h0
 have HP := Lib.hid (law_permitted ((w.alloc (.cells #[.string x.q.who.ty, .string x.q.who.id, .string x.q.act.ty, .string x.q.act.id, .string x.q.what.ty, .string x.q.what.id, .slice x.qa x.q.ctx.length x.qc] 39)).alloc (.cells #[.string y.p.name, .bool y.p.forbid, .int .i64 y.p.who.op, .string y.p.who.ty, .string y.p.who.uid.ty, .string y.p.who.uid.id, .int .i64 y.p.act.op, .string y.p.act.ty, .string y.p.act.uid.ty, .string y.p.act.uid.id, .int .i64 y.p.what.op, .string y.p.what.ty, .string y.p.what.uid.ty, .string y.p.what.uid.id, .slice y.A y.cs.length y.c] 47)) (hI.err.below h0 hI.err.lt))
 have HPW := Lib.hid hP
 have HA1 := Lib.hid (fun W (hW : RowKit.Below w.heap.size w W) => auth_Ask x ps A c W (hI.later hW) (hP.later hW))
 have HA2 := Lib.hid (fun W (hW : RowKit.Below w.heap.size w W) A' c' (hp : PosIn W A' (ps ++ [y])) => auth_Ask x (ps ++ [y]) A' c' W (hI.later hW) hp)
 have HEA := Lib.hid (fun W (hW : RowKit.Below w.heap.size w W) => show ∀ z ∈ ps ++ [y], PoMOk W W.heap.size z from fun z hz => by
   rcases List.mem_append.1 hz with hz | hz
   · exact (hP.later hW).each z hz
   · rw [List.mem_singleton] at hz; subst hz; exact hY.later hW)
 unfold AnsBack at HA1 HA2
 rw [show (ps ++ [y]).length = ps.length + 1 by simp] at HA2
 have HLW := Lib.hid (more_law x ps y)
 generalize askErr x ps = k1 at HA1 HLW
 generalize askErr x (ps ++ [y]) = k2 at HA2 HLW
 generalize aOB x ps = OB1 at HA1 HLW
 generalize aOB x (ps ++ [y]) = OB2 at HA2 HLW
 generalize aBY x ps = BY1 at HA1
 generalize aBY x (ps ++ [y]) = BY2 at HA2
 generalize aWR x ps = WR1 at HA1
 generalize aWR x (ps ++ [y]) = WR2 at HA2
 have hlw := w.heap.size
 clear hI hP hY h0
 have e1 : (w.alloc (.cells #[.string x.q.who.ty, .string x.q.who.id, .string x.q.act.ty, .string x.q.act.id, .string x.q.what.ty, .string x.q.what.id, .slice x.qa x.q.ctx.length x.qc] 39)).heap.size = w.heap.size + 1 := World.size_alloc _ _
 rw [e1] at B1
 clear e1 hlw
 go_enter Tryz.func8, Tryz.ntmps8
 go_wp2_with fail
 refine HP.out.mono ?_
 rintro r w1 ⟨rfl, hb1⟩
 have C0 := Lib.hid (B0.out.below hb1 B0.out.lt)
 have C1 := Lib.hid (B1.out.below hb1 B1.out.lt)
 have H1 := Lib.hid (H0.out.trans (hb1.mono H0.out.size))
 have hlt := C1.out.lt
 clear hb1 B0 B1 H0 HP
 go_wp2_with fail
 have hbs := bs_pol0
 have HPL : Hid (PoSl w1 w1.heap.size A ps) := Lib.hid (HPW.out.later H1.out).sl
 have HS0 : Hid (Po15 y (w.heap.size + 1) w1 w1.drew) := Lib.hid (Po15.of C1.out ((RowKit.Below.refl _ _).drew))
 go_upto_region 4 with fail
 go_cut [10] from 18 to 23 (fun mv wx => ∃ A3 c3, mv = .slice A3 (ps.length + 1) c3 ∧ Hid (PoRow (ps ++ [y]) w1 mv wx))
 case first =>
   go_region_held3 (fun W => W.cell? ⟨w.heap.size + 1, 0, none⟩ = some (.string y.p.name) ∧ W.cell? ⟨w.heap.size + 1, 1, none⟩ = some (.bool y.p.forbid) ∧ W.cell? ⟨w.heap.size + 1, 2, none⟩ = some (.int .i64 y.p.who.op) ∧ W.cell? ⟨w.heap.size + 1, 3, none⟩ = some (.string y.p.who.ty) ∧ W.cell? ⟨w.heap.size + 1, 4, none⟩ = some (.string y.p.who.uid.ty) ∧ W.cell? ⟨w.heap.size + 1, 5, none⟩ = some (.string y.p.who.uid.id) ∧ W.cell? ⟨w.heap.size + 1, 6, none⟩ = some (.int .i64 y.p.act.op) ∧ W.cell? ⟨w.heap.size + 1, 7, none⟩ = some (.string y.p.act.ty) ∧ W.cell? ⟨w.heap.size + 1, 8, none⟩ = some (.string y.p.act.uid.ty) ∧ W.cell? ⟨w.heap.size + 1, 9, none⟩ = some (.string y.p.act.uid.id) ∧ W.cell? ⟨w.heap.size + 1, 10, none⟩ = some (.int .i64 y.p.what.op) ∧ W.cell? ⟨w.heap.size + 1, 11, none⟩ = some (.string y.p.what.ty) ∧ W.cell? ⟨w.heap.size + 1, 12, none⟩ = some (.string y.p.what.uid.ty) ∧ W.cell? ⟨w.heap.size + 1, 13, none⟩ = some (.string y.p.what.uid.id) ∧ W.cell? ⟨w.heap.size + 1, 14, none⟩ = some (.slice y.A y.cs.length y.c) ∧ RowKit.Below w1.heap.size w1 W) (first | exact HS0.out | exact Po15.next (by assumption) C1.out _ | exact Po15.of C1.out (PoRow.below (by assumption)))
     (first
       | (refine step_append_run (by rfl) _ _ _ (by rfl) _ _ (by rfl) (by rfl) _ (app_pol0 (w1 := w1) (ps := ps) (blk_new (by simp) _ _) (by simp) (Po15.b (by assumption)) HPL.out hn) ?_; rintro v6 w6 ⟨hr6, hk6⟩)
       | (refine step_append_run (by rfl) _ _ _ (by rfl) _ _ (by rfl) (by rfl) _ (app_pol0 (w1 := w1) (ps := ps) ((blk_new (by simp) _ _).alloc _) (by simp) (Po15.b (by assumption)) HPL.out hn) ?_; rintro v6 w6 ⟨hr6, hk6⟩)
       | (refine step_append_run (by rfl) _ _ _ (by rfl) _ _ (by rfl) (by rfl) _ (app_pol1 (y := y) hr6 _ (RowKit.Below.alloc (RowKit.Below.refl _ _) (Nat.le_refl _) _) (blk_new (by simp) _ _) hn) ?_; rintro v7 w7 hr7)
       | (refine step_append_run (by rfl) _ _ _ (by rfl) _ _ (by rfl) (by rfl) _ (app_pol1 (y := y) hr6 _ (RowKit.Below.refl _ _) (hk6 _ _ _ (blk_new (by simp) _ _) rfl) hn) ?_; rintro v7 w7 hr7)
       | (refine step_append_run (by rfl) _ _ _ (by rfl) _ _ (by rfl) (by rfl) _ (app_pol1 (y := y) hr6 _ (RowKit.Below.refl _ _) (hk6 _ _ _ ((blk_new (by simp) _ _).alloc _) rfl) hn) ?_; rintro v7 w7 hr7))
   all_goals
     go_wp2_with fail
     go_meet
     obtain ⟨-, As, cs, hsv, -⟩ := own_formG pom_ok hr7.own
     exact ⟨As, cs, by rw [hsv]; simp, Lib.hid hr7⟩
 case rest =>
   obtain ⟨A3, c3, rfl, HR⟩ := hcut
   have HB3 := Lib.hid (H1.out.trans (HR.out.below.mono H1.out.size))
   have D0 := Lib.hid (C0.out.below HR.out.below C0.out.lt)
   have D1 := Lib.hid (C1.out.below HR.out.below C1.out.lt)
   have HPM := Lib.hid (HR.out.pos (HEA.out wc HB3.out))
   have cc := D0.out.cell
   have cl := D0.out.lt
   clear HR HPL HPW HEA hbs HS0 C0 C1 hlt
   go_wp2_with fail
   refine (HA1.out wc HB3.out).mono ?_
   rintro r w4 ⟨A4, c4, A5, c5, rfl, n1, n2, n3, n4, s1, s2, hb4⟩
   have H4 := Lib.hid (HB3.out.trans (hb4.mono HB3.out.size))
   have HPM4 := Lib.hid (HPM.out.later hb4)
   have E0 := Lib.hid (D0.out.below hb4 D0.out.lt)
   have E1 := Lib.hid (D1.out.below hb4 D1.out.lt)
   clear hb4 s1 s2 n1 n2 n3 n4 cc cl HPM HB3 D0 D1 HA1
   have hal : RowKit.Below w4.heap.size w4 (w4.alloc (.cells #[.bool OB1, .slice A4 BY1.length c4, .slice A5 WR1.length c5] 70)) := by (repeat (first | assumption | exact Below.refl _ _ | apply Below.drew | apply below_drewN | (refine Below.alloc ?_ (by first | exact Nat.le_refl _ | omega | (simp; done) | (simp; omega)) _)))
   have F0 := Lib.hid (E0.out.alloc (.cells #[.bool OB1, .slice A4 BY1.length c4, .slice A5 WR1.length c5] 70))
   have F1 := Lib.hid (E1.out.alloc (.cells #[.bool OB1, .slice A4 BY1.length c4, .slice A5 WR1.length c5] 70))
   have F2 := Lib.hid (Blk.new w4 70 #[.bool OB1, .slice A4 BY1.length c4, .slice A5 WR1.length c5])
   have H5 := Lib.hid (H4.out.trans (hal.mono H4.out.size))
   have HPM5 := Lib.hid (HPM4.out.later hal)
   have cc := F0.out.cell
   have cl := F0.out.lt
   clear E0 E1 HPM4 H4 hal
   go_wp2_with fail
   refine (HA2.out _ H5.out A3 c3 HPM5.out).mono ?_
   rintro r w6 ⟨A6, c6, A7, c7, rfl, n1, n2, n3, n4, s1, s2, hb6⟩
   have hal : RowKit.Below w6.heap.size w6 (w6.alloc (.cells #[.bool OB2, .slice A6 BY2.length c6, .slice A7 WR2.length c7] 70)) := by (repeat (first | assumption | exact Below.refl _ _ | apply Below.drew | apply below_drewN | (refine Below.alloc ?_ (by first | exact Nat.le_refl _ | omega | (simp; done) | (simp; omega)) _)))
   have G1 := Lib.hid ((F1.out.below hb6 F1.out.lt).alloc (.cells #[.bool OB2, .slice A6 BY2.length c6, .slice A7 WR2.length c7] 70))
   have G2 := Lib.hid ((F2.out.below hb6 F2.out.lt).alloc (.cells #[.bool OB2, .slice A6 BY2.length c6, .slice A7 WR2.length c7] 70))
   have G3 := Lib.hid (Blk.new w6 70 #[.bool OB2, .slice A6 BY2.length c6, .slice A7 WR2.length c7])
   have H6 := Lib.hid (H5.out.trans (hb6.mono H5.out.size))
   have H7 := Lib.hid (H6.out.trans (hal.mono H6.out.size))
   clear hb6 s1 s2 n1 n2 n3 n4 cc cl HPM5 F0 F1 F2 H5 hal HA2 H6
   have c1 := G1.out.cell
   have l1 := G1.out.lt
   have c2 := G2.out.cell
   have l2 := G2.out.lt
   have c3' := G3.out.cell
   have l3 := G3.out.lt
   by_cases hk1 : k1 = 0
   · by_cases hk2 : k2 = 0
     · have hlaw := HLW.out hk1 hk2
       subst hk1 hk2
       rw [errV_zero]
       obtain ⟨fb, hfb⟩ : ∃ fb, y.p.forbid = fb := ⟨_, rfl⟩
       rw [hfb] at hlaw c1
       clear hfb
       cases fb
       · have hlaw := hlaw.2 rfl
         rcases hlaw with rfl | rfl
         · go_wp2_with fail
           go_ret
           exact ⟨rfl, H7.out⟩
         · cases OB1 <;> (
             go_wp2_with fail
             go_ret
             exact ⟨rfl, H7.out⟩)
       · have hlaw := hlaw.1 rfl
         rcases hlaw with rfl | rfl
         · go_wp2_with fail
           go_ret
           exact ⟨rfl, H7.out⟩
         · cases OB1 <;> (
             go_wp2_with fail
             go_ret
             exact ⟨rfl, H7.out⟩)
     · have tk : (k2 != 0) = true := by simpa using hk2
       subst hk1
       rw [errV_zero]
       clear hk2 HLW
       go_wp2_with fail
       go_ret
       exact ⟨rfl, H7.out⟩
   · have tk : (k1 != 0) = true := by simpa using hk1
     clear hk1 HLW
     go_wp2_with fail
     go_ret
     exact ⟨rfl, H7.out⟩
end Go.Proofs.YtpheiojmcafolaaGreatDoor
namespace Go.Proofs.YtpheiojmcafolaaGreatDoor
open Go.ChangeShapes Go.WideShapes Go.ChangeAt Go.RowKit Go.WideMaps
section
variable {H : Type} {enc : TypeId × Value → H} {P : Program} {w : World} {base : Nat} {spare : Nat → Bool} {held : Bool}
theorem trodAll_five {t t' t'' t3 t4 : TypeId} {args : Array Value} {ds : List (DataW H)} {ps : List MemPlace} (h : DataW.TrodAll enc P w base spare held [t, t', t'', t3, t4] args.toList ds ps) :
   ∃ v v' v'' v3 v4 d d' d'' d3 d4 p p' p'' p3 p4, args = #[v, v', v'', v3, v4] ∧ ds = [d, d', d'', d3, d4] ∧ ps = p ++ (p' ++ (p'' ++ (p3 ++ p4))) ∧ DataW.Trod enc P w base spare held t v d p ∧ DataW.Trod enc P w base spare held t' v' d' p' ∧ DataW.Trod enc P w base spare held t'' v'' d'' p'' ∧ DataW.Trod enc P w base spare held t3 v3 d3 p3 ∧ DataW.Trod enc P w base spare held t4 v4 d4 p4 := by
 obtain ⟨v, vs, d, ds', p, q, hargs, rfl, rfl, hd, hrest⟩ := trodAll_cons h
 obtain ⟨v', vs', d', ds'', p', q', rfl, rfl, rfl, hd', hrest'⟩ := trodAll_cons hrest
 obtain ⟨v'', vs'', d'', ds''', p'', q'', rfl, rfl, rfl, hd'', hrest''⟩ := trodAll_cons hrest'
 obtain ⟨v3, vs3, d3, ds3, p3, q3, rfl, rfl, rfl, hd3, hrest3⟩ := trodAll_cons hrest''
 obtain ⟨v4, vs4, d4, ds4, p4, q4, rfl, rfl, rfl, hd4, hrest4⟩ := trodAll_cons hrest3
 obtain ⟨rfl, rfl, rfl⟩ := trodAll_nil hrest4
 exact ⟨v, v', v'', v3, v4, d, d', d'', d3, d4, p, p', p'', p3, p4, by cases args; simp_all, rfl, by simp, hd, hd', hd'', hd3, hd4⟩
theorem trodAll_mk5 {t t' t'' t3 t4 : TypeId} {v v' v'' v3 v4 : Value} {d d' d'' d3 d4 : DataW H} {p p' p'' p3 p4 : List MemPlace} (h : DataW.Trod enc P w base spare held t v d p) (h' : DataW.Trod enc P w base spare held t' v' d' p')
   (h'' : DataW.Trod enc P w base spare held t'' v'' d'' p'') (h3 : DataW.Trod enc P w base spare held t3 v3 d3 p3) (h4 : DataW.Trod enc P w base spare held t4 v4 d4 p4) :
   DataW.TrodAll enc P w base spare held [t, t', t'', t3, t4] [v, v', v'', v3, v4] [d, d', d'', d3, d4] (p ++ (p' ++ (p'' ++ (p3 ++ p4)))) := ⟨p, p' ++ (p'' ++ (p3 ++ p4)), h, ⟨p', p'' ++ (p3 ++ p4), h', trodAll_mk3 h'' h3 h4, rfl⟩, rfl⟩
end
end Go.Proofs.YtpheiojmcafolaaGreatDoor
