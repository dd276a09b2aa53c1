/-
  THE WALK of the law PolMeans: the loop (printed by mkpml.py).
  The row's condition on errors.errorType: what it gives a walk, and a world that meets it (turned from the worked ToyasProofs).
-/
import Derived.Test.YtpheiojmcafolaaGreatDoorPw13
import Derived.Test.YtpheiojmcafolaaGreatDoorRows
import Derived.Test.YtpheiojmcafolaaGreatDoorPw09
import Derived.Test.YtpheiojmcafolaaGreatDoorPw01
import Derived.ChangeVars
import Derived.JoinedOf
import Derived.LaidLaws
import Derived.LaidHandle
import Derived.Stop.Joined
namespace Go.Proofs.YtpheiojmcafolaaGreatDoor
set_option maxRecDepth 100000
open Go.RowKit Go.Sort
set_option maxHeartbeats 25600000 in
theorem pm_loop (x : Aq) (y : PoM) (w : World) (hI : AqIn x w) (hy : PoMOk w w.heap.size y) (h0 : (exprP y.p).2 = 0) (h1 : ¬ 5 ≤ y.p.who.op) (h2 : ¬ 5 ≤ y.p.what.op) (h3 : entErr x.es = 0) (h4 : rqErr x.q = 0) (g1 : fitsB x.es y.p.who x.q.who = true) (g2 : fitsB x.es y.p.act x.q.act = true) (g3 : fitsB x.es y.p.what x.q.what = true) :
   Calls Tryz.prog 4 #[.slice x.Ea x.hs.length x.ec, .agg #[.string y.p.name, .bool y.p.forbid, .int .i64 y.p.who.op, .string y.p.who.ty, .string y.p.who.uid.ty, .string y.p.who.uid.id, .int .i64 y.p.act.op, .string y.p.act.ty, .string y.p.act.uid.ty, .string y.p.act.uid.id, .int .i64 y.p.what.op, .string y.p.what.ty, .string y.p.what.uid.ty, .string y.p.what.uid.id, .slice y.A y.cs.length y.c], .agg #[.string x.q.who.ty, .string x.q.who.id, .string x.q.act.ty, .string x.q.act.id, .string x.q.what.ty, .string x.q.what.id, .slice x.qa x.q.ctx.length x.qc]] w fun r w' => r = .returned (.bool true) ∧ RowKit.Below w.heap.size w w' := by
 have hb0 : RowKit.Below w.heap.size w ((w.alloc (.cells #[.string y.p.name, .bool y.p.forbid, .int .i64 y.p.who.op, .string y.p.who.ty, .string y.p.who.uid.ty, .string y.p.who.uid.id, .int .i64 y.p.act.op, .string y.p.act.ty, .string y.p.act.uid.ty, .string y.p.act.uid.id, .int .i64 y.p.what.op, .string y.p.what.ty, .string y.p.what.uid.ty, .string y.p.what.uid.id, .slice y.A y.cs.length y.c] 47)).alloc (.cells #[.string x.q.who.ty, .string x.q.who.id, .string x.q.act.ty, .string x.q.act.id, .string x.q.what.ty, .string x.q.what.id, .slice x.qa x.q.ctx.length x.qc] 39)) := by (repeat (first | assumption | exact Below.refl _ _ | apply Below.drew | apply below_drewN | (refine Below.alloc ?_ (by first | exact Nat.le_refl _ | omega | (simp; done) | (simp; omega)) _)))
 have q0 : Blk ((w.alloc (.cells #[.string y.p.name, .bool y.p.forbid, .int .i64 y.p.who.op, .string y.p.who.ty, .string y.p.who.uid.ty, .string y.p.who.uid.id, .int .i64 y.p.act.op, .string y.p.act.ty, .string y.p.act.uid.ty, .string y.p.act.uid.id, .int .i64 y.p.what.op, .string y.p.what.ty, .string y.p.what.uid.ty, .string y.p.what.uid.id, .slice y.A y.cs.length y.c] 47)).alloc (.cells #[.string x.q.who.ty, .string x.q.who.id, .string x.q.act.ty, .string x.q.act.id, .string x.q.what.ty, .string x.q.what.id, .slice x.qa x.q.ctx.length x.qc] 39)) (w.heap.size + 1) 39 #[.string x.q.who.ty, .string x.q.who.id, .string x.q.act.ty, .string x.q.act.id, .string x.q.what.ty, .string x.q.what.id, .slice x.qa x.q.ctx.length x.qc] := by
   have := Blk.new (w.alloc (.cells #[.string y.p.name, .bool y.p.forbid, .int .i64 y.p.who.op, .string y.p.who.ty, .string y.p.who.uid.ty, .string y.p.who.uid.id, .int .i64 y.p.act.op, .string y.p.act.ty, .string y.p.act.uid.ty, .string y.p.act.uid.id, .int .i64 y.p.what.op, .string y.p.what.ty, .string y.p.what.uid.ty, .string y.p.what.uid.id, .slice y.A y.cs.length y.c] 47)) 39 #[.string x.q.who.ty, .string x.q.who.id, .string x.q.act.ty, .string x.q.act.id, .string x.q.what.ty, .string x.q.what.id, .slice x.qa x.q.ctx.length x.qc]
   rwa [World.size_alloc] at this
 have p0 : Blk ((w.alloc (.cells #[.string y.p.name, .bool y.p.forbid, .int .i64 y.p.who.op, .string y.p.who.ty, .string y.p.who.uid.ty, .string y.p.who.uid.id, .int .i64 y.p.act.op, .string y.p.act.ty, .string y.p.act.uid.ty, .string y.p.act.uid.id, .int .i64 y.p.what.op, .string y.p.what.ty, .string y.p.what.uid.ty, .string y.p.what.uid.id, .slice y.A y.cs.length y.c] 47)).alloc (.cells #[.string x.q.who.ty, .string x.q.who.id, .string x.q.act.ty, .string x.q.act.id, .string x.q.what.ty, .string x.q.what.id, .slice x.qa x.q.ctx.length x.qc] 39)) w.heap.size 47 #[.string y.p.name, .bool y.p.forbid, .int .i64 y.p.who.op, .string y.p.who.ty, .string y.p.who.uid.ty, .string y.p.who.uid.id, .int .i64 y.p.act.op, .string y.p.act.ty, .string y.p.act.uid.ty, .string y.p.act.uid.id, .int .i64 y.p.what.op, .string y.p.what.ty, .string y.p.what.uid.ty, .string y.p.what.uid.id, .slice y.A y.cs.length y.c] := (Blk.new w 47 #[.string y.p.name, .bool y.p.forbid, .int .i64 y.p.who.op, .string y.p.who.ty, .string y.p.who.uid.ty, .string y.p.who.uid.id, .int .i64 y.p.act.op, .string y.p.act.ty, .string y.p.act.uid.ty, .string y.p.act.uid.id, .int .i64 y.p.what.op, .string y.p.what.ty, .string y.p.what.uid.ty, .string y.p.what.uid.id, .slice y.A y.cs.length y.c]).alloc (.cells #[.string x.q.who.ty, .string x.q.who.id, .string x.q.act.ty, .string x.q.act.id, .string x.q.what.ty, .string x.q.what.id, .slice x.qa x.q.ctx.length x.qc] 39)
 have HP := Lib.hid (fun W (hW : RowKit.Below w.heap.size w W) => pol_Expr_any y.p y.cs y.A y.c W hy.same hy.z (hy.later hW).at_ (Nat.le_trans hy.le hy.max))
 obtain ⟨hpk, hL, ht⟩ := exprP_tree h0
 have hni : NdI (exprP y.p).1 := exprP_i64 h0 (fun c hc => by rw [hy.same] at hc; obtain ⟨z, hz, rfl⟩ := List.mem_map.1 hc; exact hy.ni z hz)
 have hval : valueR x.es x.q (exprP y.p).1 = (if scopesB x.es x.q y.p = true then condsR x.es x.q y.p.conds else .ok false).bind fun b => .ok [bN b] := by
   rw [valueR_ev h3 h4 ht, hL]
   exact pol_means x.es x.q h4 hpk (sc_ge h1) (sc_ge h2)
 have HE := Lib.hid (fun W (hb : RowKit.Below w.heap.size w W) => ent_Check x.hs x.es x.Ea x.ec W (hI.later hb).ents hI.ec)
 have HA := Lib.hid (fun W (hb : RowKit.Below w.heap.size w W) => eval_Ask x.q x.qa x.qc W hI.qz.1 hI.qz.2.1 hI.qz.2.2 hI.qc.1 hI.qc.2 hI.qk (hI.later hb).ctx)
 have HF1 := Lib.hid (fun W (hb : RowKit.Below w.heap.size w W) => law_fits x.hs x.es x.Ea x.ec y.p.who x.q.who W (hI.later hb).ents hI.ec h3 hI.qz.1 hy.z.2.1.2)
 have HF2 := Lib.hid (fun W (hb : RowKit.Below w.heap.size w W) => law_fits x.hs x.es x.Ea x.ec y.p.act x.q.act W (hI.later hb).ents hI.ec h3 hI.qz.2.1 hy.z.2.2.1.2)
 have HF3 := Lib.hid (fun W (hb : RowKit.Below w.heap.size w W) => law_fits x.hs x.es x.Ea x.ec y.p.what x.q.what W (hI.later hb).ents hI.ec h3 hI.qz.2.2 hy.z.2.2.2.2)
 rw [h0] at HP
 rw [h3] at HE
 rw [h4] at HA
 have t1 : decide (5 ≤ y.p.who.op) = false := by simpa using h1
 have t2 : decide (5 ≤ y.p.what.op) = false := by simpa using h2
 obtain ⟨V, hV⟩ : ∃ V, valueR x.es x.q (exprP y.p).1 = V := ⟨_, rfl⟩
 have HV : Hid (∀ W, RowKit.Below w.heap.size w W → ∀ A' c', NdSl W W.heap.size A' (exprP y.p).1 → (exprP y.p).1.length ≤ c' → c' ≤ 9223372036854775807 → Calls Tryz.prog 19 #[.slice x.Ea x.hs.length x.ec, .agg #[.string x.q.who.ty, .string x.q.who.id, .string x.q.act.ty, .string x.q.act.id, .string x.q.what.ty, .string x.q.what.id, .slice x.qa x.q.ctx.length x.qc], .slice A' (exprP y.p).1.length c'] W fun r w' => NdsNewE W r w' (rsL V) (rsE V)) := by
   intro W hW A' c' a1 a2 a3
   have := eval_Value (x.ev (exprP y.p).1 A' c') W ((hI.later hW).va a1 a2 a3 (tree_ok ht) hni)
   have e : valueR (x.ev (exprP y.p).1 A' c').es (x.ev (exprP y.p).1 A' c').q (x.ev (exprP y.p).1 A' c').e = V := hV
   rw [e] at this
   exact this
 have HC : Hid (PmV (condsP x.es x.q y.cs) (rsL V) (rsE V)) := by
   refine pmV_of ?_ fun k e => valueR_nz (hV.trans e)
   rw [← hV, hval, if_pos (by unfold scopesB; simp [g1, g2, g3]), hy.same]
   rfl
 have hcs := cds_each (pol_ok.1 hpk).2.2.2.2.2
 have HVZ : Hid (∀ W, RowKit.Below w.heap.size w W → ∀ z ∈ y.cs, Calls Tryz.prog 19 #[.slice x.Ea x.hs.length x.ec, .agg #[.string x.q.who.ty, .string x.q.who.id, .string x.q.act.ty, .string x.q.act.id, .string x.q.what.ty, .string x.q.what.id, .slice x.qa x.q.ctx.length x.qc], .slice z.A z.e.length z.c] W fun r w' => NdsNewE W r w' (rsL (evX x.es x.q z.e)) (rsE (evX x.es x.q z.e))) := by
   intro W hW z hz
   have hg := ((hy.later hW).at_.good z hz)
   have htz : treeErr z.e = 0 := cond_tree (hcs z.cd (by rw [hy.same]; exact List.mem_map_of_mem hz))
   have := eval_Value (x.ev z.e z.A z.c) W ((hI.later hW).va hg.sl hg.le hg.max hg.ok (hy.ni z hz))
   have e : valueR (x.ev z.e z.A z.c).es (x.ev z.e z.A z.c).q (x.ev z.e z.A z.c).e = evX x.es x.q z.e := valueR_ev h3 h4 htz
   rw [e] at this
   exact this
 have HNZ : Hid (∀ z ∈ y.cs, (∀ k, evX x.es x.q z.e = .bad k → k ≠ 0) ∧ (∀ v, evX x.es x.q z.e = .ok v → v ≠ [])) := by
   intro z hz
   have htz : treeErr z.e = 0 := cond_tree (hcs z.cd (by rw [hy.same]; exact List.mem_map_of_mem hz))
   refine ⟨fun k e => valueR_nz ((valueR_ev h3 h4 htz).trans e), fun v e => ?_⟩
   obtain ⟨z', rr, rfl, -⟩ := ((val_iff v).1 (valueR_ok ((valueR_ev h3 h4 htz).trans e))).2.ne
   simp
 rw [g1] at HF1
 rw [g2] at HF2
 rw [g3] at HF3
 have HU := Lib.hid r3_Truth
 have HSN := Lib.hid (fun B W A1 A2 c1 c2 (h1 : NdSl W W.heap.size A1 [bN B]) (h2 : NdSl W W.heap.size A2 [trN B]) => same_Nodes [bN B] A1 A2 c1 c2 W h1 h2 (by simp))
 have HD := Lib.hid (fun W (hW : RowKit.Below w.heap.size w W) => (hy.later hW).at_.sl)
 have hle := hy.le
 have hmx := hy.max
 clear hI hy h0 h1 h2 h3 h4 hpk hL ht hni hval hV hcs g1 g2 g3
 generalize (exprP y.p).1 = L at HP HV
 generalize rsL V = LV at HV HC
 generalize rsE V = kV at HV HC
 have HB0 := Lib.hid hb0
 have HP0 := Lib.hid p0
 have HQ0 := Lib.hid q0
 clear hb0 p0 q0
 go_enter Tryz.func4, Tryz.ntmps4
 go_wp2_with fail
 refine (pol_expr_a _).mono ?_
 rintro r w1 ⟨⟨A1, c1, rfl⟩, hb1⟩
 have HB1 := Lib.hid (HB0.out.trans (hb1.mono HB0.out.size))
 have HP1 := Lib.hid (HP0.out.below hb1 HP0.out.lt)
 have HQ1 := Lib.hid (HQ0.out.below hb1 HQ0.out.lt)
 have cc := HP1.out.cell
 have ll := HP1.out.lt
 clear hb1 HB0 HP0 HQ0
 go_wp2_with fail
 refine (HP.out _ HB1.out).mono ?_
 rintro r w2 ⟨A2, c2, rfl, hl2, hm2, hs2, hb2⟩
 have HB2 := Lib.hid (HB1.out.trans (hb2.mono HB1.out.size))
 have HP2 := Lib.hid (HP1.out.below hb2 ll)
 have HQ2 := Lib.hid (HQ1.out.below hb2 HQ1.out.lt)
 clear cc ll HP1 HQ1 HB1 hb2
 have cc := HP2.out.cell
 have ll := HP2.out.lt
 have dd := HQ2.out.cell
 have dl := HQ2.out.lt
 have HS2 := Lib.hid hs2
 clear hs2 HP
 go_wp2_with fail
 refine (HE.out _ HB2.out).mono ?_
 rintro r w3 ⟨rfl, hb3⟩
 have HB3 := Lib.hid (HB2.out.trans (hb3.mono HB2.out.size))
 have HP3 := Lib.hid (HP2.out.below hb3 ll)
 have HQ3 := Lib.hid (HQ2.out.below hb3 dl)
 have HS3 := Lib.hid ((HS2.out.below hb3).more hb3.size)
 clear cc ll dd dl HP2 HQ2 HB2 HS2 hb3
 have cc := HP3.out.cell
 have ll := HP3.out.lt
 have dd := HQ3.out.cell
 have dl := HQ3.out.lt
 go_wp2_with fail
 refine (HA.out _ HB3.out).mono ?_
 rintro r w4 ⟨rfl, hb4⟩
 have HB4 := Lib.hid (HB3.out.trans (hb4.mono HB3.out.size))
 have HP4 := Lib.hid (HP3.out.below hb4 ll)
 have HQ4 := Lib.hid (HQ3.out.below hb4 dl)
 have HS4 := Lib.hid ((HS3.out.below hb4).more hb4.size)
 clear cc ll dd dl HP3 HQ3 HB3 HS3 hb4
 have cc := HP4.out.cell
 have ll := HP4.out.lt
 have dd := HQ4.out.cell
 have dl := HQ4.out.lt
 go_wp2_with fail
 refine (HV.out _ HB4.out _ _ HS4.out hl2 hm2).mono ?_
 rintro r w5 ⟨A5, c5, rfl, hl5, hm5, hs5, hb5, -⟩
 have HB5 := Lib.hid (HB4.out.trans (hb5.mono HB4.out.size))
 have HP5 := Lib.hid (HP4.out.below hb5 ll)
 have HQ5 := Lib.hid (HQ4.out.below hb5 dl)
 have HS5 := Lib.hid hs5
 clear cc ll dd dl HP4 HQ4 HB4 HS4 hb5 hs5
 have cc := HP5.out.cell
 have ll := HP5.out.lt
 have dd := HQ5.out.cell
 have dl := HQ5.out.lt
 go_wp2_with fail
 refine (HF1.out _ HB5.out).mono ?_
 rintro r w6 ⟨rfl, hb6⟩
 have HB6 := Lib.hid (HB5.out.trans (hb6.mono HB5.out.size))
 have HP6 := Lib.hid (HP5.out.below hb6 ll)
 have HQ6 := Lib.hid (HQ5.out.below hb6 dl)
 have HS6 := Lib.hid ((HS5.out.below hb6).more hb6.size)
 clear cc ll dd dl HP5 HQ5 HB5 HS5 hb6
 have cc := HP6.out.cell
 have ll := HP6.out.lt
 have dd := HQ6.out.cell
 have dl := HQ6.out.lt
 go_wp2_with fail
 refine (HF2.out _ HB6.out).mono ?_
 rintro r w7 ⟨rfl, hb7⟩
 have HB7 := Lib.hid (HB6.out.trans (hb7.mono HB6.out.size))
 have HP7 := Lib.hid (HP6.out.below hb7 ll)
 have HQ7 := Lib.hid (HQ6.out.below hb7 dl)
 have HS7 := Lib.hid ((HS6.out.below hb7).more hb7.size)
 clear cc ll dd dl HP6 HQ6 HB6 HS6 hb7
 have cc := HP7.out.cell
 have ll := HP7.out.lt
 have dd := HQ7.out.cell
 have dl := HQ7.out.lt
 go_wp2_with fail
 refine (HF3.out _ HB7.out).mono ?_
 rintro r w8 ⟨rfl, hb8⟩
 have HB8 := Lib.hid (HB7.out.trans (hb8.mono HB7.out.size))
 have HP8 := Lib.hid (HP7.out.below hb8 ll)
 have HQ8 := Lib.hid (HQ7.out.below hb8 dl)
 have HS8 := Lib.hid ((HS7.out.below hb8).more hb8.size)
 clear cc ll dd dl HP7 HQ7 HB7 HS7 hb8
 have cc := HP8.out.cell
 have ll := HP8.out.lt
 have dd := HQ8.out.cell
 have dl := HQ8.out.lt
 clear HF1 HF2 HF3 HE HA HV
 go_wp2_with fail
 go_loopw [13, 14] (fun wv iv wr => ∃ i : Nat, wv = .bool true ∧ iv = .int .i64 i ∧ i ≤ y.cs.length ∧ Hid (condsP x.es x.q y.cs = condsP x.es x.q (y.cs.drop i)) ∧ RowKit.Below w8.heap.size w8 wr) (fun _ iv _ => (y.cs.length - intOf iv).toNat)
 case atStart => exact ⟨0, rfl, by go_num, Nat.zero_le _, Lib.hid rfl, RowKit.Below.refl _ _⟩
 case round =>
   obtain ⟨i, rfl, rfl, hi, HCI, hbr⟩ := hrel
   have hzr := hbr.size
   have HBr := Lib.hid (HB8.out.trans (hbr.mono HB8.out.size))
   have HPr := Lib.hid (HP8.out.below hbr ll)
   have HQr := Lib.hid (HQ8.out.below hbr dl)
   have HSr := Lib.hid ((HS8.out.below hbr).more hbr.size)
   clear cc ll dd dl
   have cc := HPr.out.cell
   have ll := HPr.out.lt
   have dd := HQr.out.cell
   have dl := HQr.out.lt
   by_cases hlt : i < y.cs.length
   case neg =>
     have hie : i = y.cs.length := by omega
     subst hie
     have hct : condsP x.es x.q y.cs = .ok true := by rw [HCI.out, List.drop_length]; rfl
     obtain ⟨rfl, rfl⟩ : LV = [bN true] ∧ kV = 0 := by
       rcases HC.out with ⟨B, e1, e2, e3⟩ | ⟨e1, _⟩
       · rw [hct] at e1; injection e1 with e1; subst e1; exact ⟨e2, e3⟩
       · rw [hct] at e1; cases e1
     clear hct HCI HC hlt
     go_wp2_with fail
     refine (HU.out true _).mono ?_
     rintro r wu ⟨Au, cu, rfl, gu, hbu⟩
     have HVu := Lib.hid ((HSr.out.below hbu).more hbu.size)
     have HGu := Lib.hid gu.sl
     have HBu := Lib.hid (HBr.out.trans (hbu.mono HBr.out.size))
     clear gu hbu
     go_wp2_with fail
     refine (HSN.out true wu A5 Au c5 cu HVu.out HGu.out).mono ?_
     rintro r wv ⟨rfl, hbv⟩
     have HBv := Lib.hid (HBu.out.trans (hbv.mono HBu.out.size))
     clear hbv
     go_wp2_with fail
     go_ret
     exact ⟨rfl, HBv.out⟩
   obtain ⟨z, hz⟩ : ∃ z, y.cs[i]? = some z := ⟨_, List.getElem?_eq_getElem hlt⟩
   have hzm := List.mem_of_getElem? hz
   have hcd := condsP_drop (es := x.es) (q := x.q) hz
   rw [← HCI.out] at hcd
   obtain ⟨b, o, hA, hb0w, ⟨z0, z1⟩⟩ := cdSl_at (HD.out wr HBr.out) hz
   obtain ⟨U, hU⟩ : ∃ U, evX x.es x.q z.e = U := ⟨_, rfl⟩
   obtain ⟨hn1, hn2⟩ := HNZ.out z hzm
   have hcp := condP_val hU
   rw [hU] at hn1 hn2
   have HVZ1 := Lib.hid (fun W (hW : RowKit.Below w.heap.size w W) => HVZ.out W hW z hzm)
   rw [hU] at HVZ1
   rw [hcp] at hcd
   rw [hA] at cc
   have hb0 : b < wr.heap.size := hb0w
   have HS0 : Hid (PmS w.heap.size b o i x y z wr wr.drew) := Lib.hid ⟨dd 0, dd 1, dd 2, dd 3, dd 4, dd 5, dd 6, cc 14, z0, z1, (RowKit.Below.refl _ _).drew⟩
   have i1 : (0 : Int) ≤ (i : Int) := by omega
   have i2 : (i : Int) < (y.cs.length : Int) := by omega
   have HDr := Lib.hid (HB8.out.trans ((hbr.drew).mono HB8.out.size))
   clear hU hz hzm z0 z1 HNZ HVZ HD hcp hlt hA
   cases U with
   | bad k =>
     have t3 : (k != 0) = true := by simpa using hn1 k rfl
     have hcd : condsP x.es x.q y.cs = .bad k := hcd
     rw [show rsL (Rs.bad k : Rs (List Nd)) = [] from rfl, show rsE (Rs.bad k : Rs (List Nd)) = k from rfl] at HVZ1
     obtain ⟨rfl, hk0⟩ : LV = [] ∧ kV ≠ 0 := by
       rcases HC.out with ⟨B, e1, _⟩ | ⟨_, e2, e3⟩
       · rw [hcd] at e1; cases e1
       · exact ⟨e2, e3⟩
     have tk : (kV != 0) = true := by simpa using hk0
     clear hcd HCI HC hk0 hn1 hn2
     go_wp2_with fail
     go_region_held3 (fun W => W.cell? ⟨w.heap.size + 1, 0, none⟩ = some (.string x.q.who.ty) ∧ W.cell? ⟨w.heap.size + 1, 1, none⟩ = some (.string x.q.who.id) ∧ W.cell? ⟨w.heap.size + 1, 2, none⟩ = some (.string x.q.act.ty) ∧ W.cell? ⟨w.heap.size + 1, 3, none⟩ = some (.string x.q.act.id) ∧ W.cell? ⟨w.heap.size + 1, 4, none⟩ = some (.string x.q.what.ty) ∧ W.cell? ⟨w.heap.size + 1, 5, none⟩ = some (.string x.q.what.id) ∧ W.cell? ⟨w.heap.size + 1, 6, none⟩ = some (.slice x.qa x.q.ctx.length x.qc) ∧ W.cell? ⟨w.heap.size, 14, none⟩ = some (.slice (some ⟨b, o, none⟩) y.cs.length y.c) ∧ W.cell? ⟨b, o + i * 2, none⟩ = some (.bool z.u) ∧ W.cell? ⟨b, o + i * 2 + 1, none⟩ = some (.slice z.A z.e.length z.c) ∧ RowKit.Below wr.heap.size wr W) (first | exact HS0.out | exact PmS.keep (by assumption) hb dl hb0)
       (first
         | (go_at_call 19; ((with_reducible refine (HVZ1.out _ HDr.out).mono ?_)); rintro r W ⟨Az, cz, rfl, hlz, hmz, hsz, hb, -⟩))
     have hS : PmS w.heap.size b o i x y z wr W := by assumption
     obtain ⟨d0, d1, d2, d3, d4, d5, d6, d7, d8, d9, hwW⟩ := hS
     have HBW := Lib.hid (HBr.out.trans (hwW.mono HBr.out.size))
     have HPW := Lib.hid (HPr.out.below hwW ll)
     have HQW := Lib.hid (HQr.out.below hwW dl)
     have HSW := Lib.hid ((HSr.out.below hwW).more hwW.size)
     have HWW := Lib.hid (hbr.trans (hwW.mono hzr))
     have lW : b < W.heap.size := by have := hwW.size; omega
     have HSZ := Lib.hid hsz
     clear hb HS0 HDr cc ll dd dl hsz hwW HBr HPr HQr HSr
     go_wp2_with fail
     go_ret
     exact ⟨rfl, HBW.out⟩
   | ok v =>
     obtain ⟨e, rr, rfl⟩ : ∃ e rr, v = e :: rr := List.exists_cons_of_ne_nil (hn2 v rfl)
     have hev : (e :: rr).length = rr.length + 1 := rfl
     rw [show rsL (Rs.ok (e :: rr) : Rs (List Nd)) = e :: rr from rfl, show rsE (Rs.ok (e :: rr) : Rs (List Nd)) = 0 from rfl] at HVZ1
     by_cases h1 : e.op = 1
     case neg =>
       have t3 : (e.op != 1) = true := by simpa using h1
       have hcd : condsP x.es x.q y.cs = .bad 2 := by rw [hcd]; show Rs.bind (Rs.bind (if opH (e :: rr) = 1 then Rs.ok (e :: rr) else .bad 2) _) _ = _; rw [if_neg (show ¬ opH (e :: rr) = 1 from h1)]; rfl
       clear h1
       obtain ⟨rfl, hk0⟩ : LV = [] ∧ kV ≠ 0 := by
         rcases HC.out with ⟨B, e1, _⟩ | ⟨_, e2, e3⟩
         · rw [hcd] at e1; cases e1
         · exact ⟨e2, e3⟩
       have tk : (kV != 0) = true := by simpa using hk0
       clear hcd HCI HC hk0 hn1 hn2
       go_wp2_with fail
       go_region_held3 (fun W => W.cell? ⟨w.heap.size + 1, 0, none⟩ = some (.string x.q.who.ty) ∧ W.cell? ⟨w.heap.size + 1, 1, none⟩ = some (.string x.q.who.id) ∧ W.cell? ⟨w.heap.size + 1, 2, none⟩ = some (.string x.q.act.ty) ∧ W.cell? ⟨w.heap.size + 1, 3, none⟩ = some (.string x.q.act.id) ∧ W.cell? ⟨w.heap.size + 1, 4, none⟩ = some (.string x.q.what.ty) ∧ W.cell? ⟨w.heap.size + 1, 5, none⟩ = some (.string x.q.what.id) ∧ W.cell? ⟨w.heap.size + 1, 6, none⟩ = some (.slice x.qa x.q.ctx.length x.qc) ∧ W.cell? ⟨w.heap.size, 14, none⟩ = some (.slice (some ⟨b, o, none⟩) y.cs.length y.c) ∧ W.cell? ⟨b, o + i * 2, none⟩ = some (.bool z.u) ∧ W.cell? ⟨b, o + i * 2 + 1, none⟩ = some (.slice z.A z.e.length z.c) ∧ RowKit.Below wr.heap.size wr W) (first | exact HS0.out | exact PmS.keep (by assumption) hb dl hb0)
         (first
           | (go_at_call 19; ((with_reducible refine (HVZ1.out _ HDr.out).mono ?_)); rintro r W ⟨Az, cz, rfl, hlz, hmz, hsz, hb, -⟩))
       have hS : PmS w.heap.size b o i x y z wr W := by assumption
       obtain ⟨d0, d1, d2, d3, d4, d5, d6, d7, d8, d9, hwW⟩ := hS
       have HBW := Lib.hid (HBr.out.trans (hwW.mono HBr.out.size))
       have HPW := Lib.hid (HPr.out.below hwW ll)
       have HQW := Lib.hid (HQr.out.below hwW dl)
       have HSW := Lib.hid ((HSr.out.below hwW).more hwW.size)
       have HWW := Lib.hid (hbr.trans (hwW.mono hzr))
       have lW : b < W.heap.size := by have := hwW.size; omega
       have HSZ := Lib.hid hsz
       clear hb HS0 HDr cc ll dd dl hsz hwW HBr HPr HQr HSr
       obtain ⟨bz, oz, rfl, hbz, hcz⟩ := HSZ.out (by simp)
       obtain ⟨f0, f1, f2, f3⟩ := hcz 0 e rfl
       rw [Nat.zero_mul, Nat.add_zero] at f0 f1
       clear hcz f2 f3
       clear d0 d1 d2 d3 d4 d5 d6 d7 d8 d9
       go_wp2_with fail
       go_ret
       exact ⟨rfl, HBW.out⟩
     have t3 : (e.op != 1) = false := by simp [h1]
     have hcd : condsP x.es x.q y.cs = if ((e.n == 1) != z.u) = true then condsP x.es x.q (y.cs.drop (i + 1)) else .ok false := by rw [hcd]; show Rs.bind (Rs.bind (if opH (e :: rr) = 1 then Rs.ok (e :: rr) else .bad 2) _) _ = _; rw [if_pos (show opH (e :: rr) = 1 from h1)]; rfl
     clear h1
     by_cases hu : (e.n == 1) = z.u
     · have t4 : ((e.n == 1) == z.u) = true := by simp [hu]
       have hct : condsP x.es x.q y.cs = .ok false := by rw [hcd, if_neg (by simp [hu])]
       obtain ⟨rfl, rfl⟩ : LV = [bN false] ∧ kV = 0 := by
         rcases HC.out with ⟨B, e1, e2, e3⟩ | ⟨e1, _⟩
         · rw [hct] at e1; injection e1 with e1; subst e1; exact ⟨e2, e3⟩
         · rw [hct] at e1; cases e1
       clear hct hcd HCI HC hn1 hn2 hu
       go_wp2_with fail
       go_region_held3 (fun W => W.cell? ⟨w.heap.size + 1, 0, none⟩ = some (.string x.q.who.ty) ∧ W.cell? ⟨w.heap.size + 1, 1, none⟩ = some (.string x.q.who.id) ∧ W.cell? ⟨w.heap.size + 1, 2, none⟩ = some (.string x.q.act.ty) ∧ W.cell? ⟨w.heap.size + 1, 3, none⟩ = some (.string x.q.act.id) ∧ W.cell? ⟨w.heap.size + 1, 4, none⟩ = some (.string x.q.what.ty) ∧ W.cell? ⟨w.heap.size + 1, 5, none⟩ = some (.string x.q.what.id) ∧ W.cell? ⟨w.heap.size + 1, 6, none⟩ = some (.slice x.qa x.q.ctx.length x.qc) ∧ W.cell? ⟨w.heap.size, 14, none⟩ = some (.slice (some ⟨b, o, none⟩) y.cs.length y.c) ∧ W.cell? ⟨b, o + i * 2, none⟩ = some (.bool z.u) ∧ W.cell? ⟨b, o + i * 2 + 1, none⟩ = some (.slice z.A z.e.length z.c) ∧ RowKit.Below wr.heap.size wr W) (first | exact HS0.out | exact PmS.keep (by assumption) hb dl hb0)
         (first
           | (go_at_call 19; ((with_reducible refine (HVZ1.out _ HDr.out).mono ?_)); rintro r W ⟨Az, cz, rfl, hlz, hmz, hsz, hb, -⟩))
       have hS : PmS w.heap.size b o i x y z wr W := by assumption
       obtain ⟨d0, d1, d2, d3, d4, d5, d6, d7, d8, d9, hwW⟩ := hS
       have HBW := Lib.hid (HBr.out.trans (hwW.mono HBr.out.size))
       have HPW := Lib.hid (HPr.out.below hwW ll)
       have HQW := Lib.hid (HQr.out.below hwW dl)
       have HSW := Lib.hid ((HSr.out.below hwW).more hwW.size)
       have HWW := Lib.hid (hbr.trans (hwW.mono hzr))
       have lW : b < W.heap.size := by have := hwW.size; omega
       have HSZ := Lib.hid hsz
       clear hb HS0 HDr cc ll dd dl hsz hwW HBr HPr HQr HSr
       obtain ⟨bz, oz, rfl, hbz, hcz⟩ := HSZ.out (by simp)
       obtain ⟨f0, f1, f2, f3⟩ := hcz 0 e rfl
       rw [Nat.zero_mul, Nat.add_zero] at f0 f1
       clear hcz f2 f3
       go_wp2_with fail
       go_quiet (fail)
       clear d0 d1 d2 d3 d4 d5 d6 d7 d8 d9
       go_wp2_with fail
       refine (HU.out false _).mono ?_
       rintro r wu ⟨Au, cu, rfl, gu, hbu0⟩
       have hbu : RowKit.Below W.heap.size W wu := (below_drewN (RowKit.Below.refl _ W) _).trans hbu0
       have HVu := Lib.hid ((HSW.out.below hbu).more hbu.size)
       have HGu := Lib.hid gu.sl
       have HBu := Lib.hid (HBW.out.trans (hbu.mono HBW.out.size))
       clear gu hbu hbu0
       go_wp2_with fail
       refine (HSN.out false wu A5 Au c5 cu HVu.out HGu.out).mono ?_
       rintro r wv ⟨rfl, hbv⟩
       have HBv := Lib.hid (HBu.out.trans (hbv.mono HBu.out.size))
       clear hbv
       go_wp2_with fail
       go_ret
       exact ⟨rfl, HBv.out⟩
     · have t4 : ((e.n == 1) == z.u) = false := by simpa using hu
       have hct : condsP x.es x.q y.cs = condsP x.es x.q (y.cs.drop (i + 1)) := by rw [hcd, if_pos (by simpa using hu)]
       have HCN := Lib.hid hct
       clear hct hcd HCI HC hn1 hn2 hu
       go_wp2_with fail
       go_region_held3 (fun W => W.cell? ⟨w.heap.size + 1, 0, none⟩ = some (.string x.q.who.ty) ∧ W.cell? ⟨w.heap.size + 1, 1, none⟩ = some (.string x.q.who.id) ∧ W.cell? ⟨w.heap.size + 1, 2, none⟩ = some (.string x.q.act.ty) ∧ W.cell? ⟨w.heap.size + 1, 3, none⟩ = some (.string x.q.act.id) ∧ W.cell? ⟨w.heap.size + 1, 4, none⟩ = some (.string x.q.what.ty) ∧ W.cell? ⟨w.heap.size + 1, 5, none⟩ = some (.string x.q.what.id) ∧ W.cell? ⟨w.heap.size + 1, 6, none⟩ = some (.slice x.qa x.q.ctx.length x.qc) ∧ W.cell? ⟨w.heap.size, 14, none⟩ = some (.slice (some ⟨b, o, none⟩) y.cs.length y.c) ∧ W.cell? ⟨b, o + i * 2, none⟩ = some (.bool z.u) ∧ W.cell? ⟨b, o + i * 2 + 1, none⟩ = some (.slice z.A z.e.length z.c) ∧ RowKit.Below wr.heap.size wr W) (first | exact HS0.out | exact PmS.keep (by assumption) hb dl hb0)
         (first
           | (go_at_call 19; ((with_reducible refine (HVZ1.out _ HDr.out).mono ?_)); rintro r W ⟨Az, cz, rfl, hlz, hmz, hsz, hb, -⟩))
       have hS : PmS w.heap.size b o i x y z wr W := by assumption
       obtain ⟨d0, d1, d2, d3, d4, d5, d6, d7, d8, d9, hwW⟩ := hS
       have HBW := Lib.hid (HBr.out.trans (hwW.mono HBr.out.size))
       have HPW := Lib.hid (HPr.out.below hwW ll)
       have HQW := Lib.hid (HQr.out.below hwW dl)
       have HSW := Lib.hid ((HSr.out.below hwW).more hwW.size)
       have HWW := Lib.hid (hbr.trans (hwW.mono hzr))
       have lW : b < W.heap.size := by have := hwW.size; omega
       have HSZ := Lib.hid hsz
       clear hb HS0 HDr cc ll dd dl hsz hwW HBr HPr HQr HSr
       obtain ⟨bz, oz, rfl, hbz, hcz⟩ := HSZ.out (by simp)
       obtain ⟨f0, f1, f2, f3⟩ := hcz 0 e rfl
       rw [Nat.zero_mul, Nat.add_zero] at f0 f1
       clear hcz f2 f3
       go_wp2_with fail
       go_quiet (fail)
       go_wp2_with fail
       exact ⟨⟨i + 1, rfl, by go_num, by omega, HCN, below_drewN HWW.out _⟩, by simp [intOf]; omega⟩
set_option maxHeartbeats 25600000 in
theorem law_pmeans (x : Aq) (y : PoM) (w : World) (hI : AqIn x w) (hy : PoMOk w w.heap.size y) :
   Calls Tryz.prog 4 #[.slice x.Ea x.hs.length x.ec, .agg #[.string y.p.name, .bool y.p.forbid, .int .i64 y.p.who.op, .string y.p.who.ty, .string y.p.who.uid.ty, .string y.p.who.uid.id, .int .i64 y.p.act.op, .string y.p.act.ty, .string y.p.act.uid.ty, .string y.p.act.uid.id, .int .i64 y.p.what.op, .string y.p.what.ty, .string y.p.what.uid.ty, .string y.p.what.uid.id, .slice y.A y.cs.length y.c], .agg #[.string x.q.who.ty, .string x.q.who.id, .string x.q.act.ty, .string x.q.act.id, .string x.q.what.ty, .string x.q.what.id, .slice x.qa x.q.ctx.length x.qc]] w fun r w' => r = .returned (.bool true) ∧ RowKit.Below w.heap.size w w' := by
 by_cases h0 : (exprP y.p).2 = 0
 case neg => exact pm_bad x y w hI hy h0
 by_cases h1 : 5 ≤ y.p.who.op
 · exact pm_who x y w hI hy h0 h1
 by_cases h2 : 5 ≤ y.p.what.op
 · exact pm_what x y w hI hy h0 h1 h2
 by_cases h3 : entErr x.es = 0
 case neg => exact pm_ent x y w hI hy h0 h1 h2 h3
 by_cases h4 : rqErr x.q = 0
 case neg => exact pm_ask x y w hI hy h0 h1 h2 h3 h4
 cases g1 : fitsB x.es y.p.who x.q.who
 · exact pm_fit1 x y w hI hy h0 h1 h2 h3 h4 g1
 cases g2 : fitsB x.es y.p.act x.q.act
 · exact pm_fit2 x y w hI hy h0 h1 h2 h3 h4 g1 g2
 cases g3 : fitsB x.es y.p.what x.q.what
 · exact pm_fit3 x y w hI hy h0 h1 h2 h3 h4 g1 g2 g3
 exact pm_loop x y w hI hy h0 h1 h2 h3 h4 g1 g2 g3
end Go.Proofs.YtpheiojmcafolaaGreatDoor
namespace Go.Proofs.YtpheiojmcafolaaGreatDoor
set_option maxRecDepth 100000
open Go.ChangeShapes Go.WideShapes Go.RowKit
def laidE : List (String × DataW Unit) := [("errors.errorType", Rows.laid_errors_errorType)]
theorem Tryz.et : Tryz.prog.globalNamed "errors.errorType" = some 0 := by kernel_rfl
theorem Tryz.rt : (Tryz.prog.cutTypes.find? (·.1 == "internal/reflectlite.rtype")).map (·.2) = some 285 := by kernel_rfl
theorem Tryz.oneRow : ((List.range 413).filter fun t => Tryz.prog.rowNamed t [101, 114, 114, 111, 114]) = [27] := by kernel_rfl
theorem Tryz.size : Tryz.prog.types.size = 413 := by kernel_rfl
theorem handle_of_laid {W : World} (h : laidMetH Tryz.prog laidE W) : ErrCell W := by
 have h' : laidMet Tryz.prog [] W ∧ handlesMet Tryz.prog laidE W := h
 obtain ⟨name, u, ty, e1, e2, e3, e4, e5⟩ := h'.2 _ (List.mem_singleton.2 rfl)
 have en : name = [101, 114, 114, 111, 114] := (Option.some.inj e1).symm
 subst en
 obtain rfl := Option.some.inj (Tryz.rt.symm.trans e2)
 have hm : ty ∈ (List.range 413).filter fun t => Tryz.prog.rowNamed t [101, 114, 114, 111, 114] := List.mem_filter.2 ⟨List.mem_range.2 (by rw [← Tryz.size]; exact e3), e4⟩
 rw [Tryz.oneRow] at hm
 obtain rfl := List.mem_singleton.1 hm
 have hh : typeHandle Tryz.prog 27 = .pointer (some ⟨2, 27, none⟩) := by kernel_rfl
 rw [hh] at e5
 unfold ErrCell
 simpa using World.var?_cell Tryz.et e5 0
noncomputable def laidWorld (os : Os) : World :=
 let w0 := World.holding Tryz.prog os ⟨#[], #[], []⟩
 { w0 with heap := w0.heap.modify 0 fun
     | .cells _ t frozen => .cells #[.iface 285 (.agg #[.pointer (some ⟨2, 27, none⟩)])] t frozen
     | o => o }
theorem laidWorld_met (os : Os) (args : Array Value) : laidMetH Tryz.prog laidE ((laidWorld os).forCall (fun _ _ => 0) ⟨#[], args, []⟩).memory :=
 laidMetH_of_parts (laidMet_nil _ _) (by kernel_rfl)
end Go.Proofs.YtpheiojmcafolaaGreatDoor
