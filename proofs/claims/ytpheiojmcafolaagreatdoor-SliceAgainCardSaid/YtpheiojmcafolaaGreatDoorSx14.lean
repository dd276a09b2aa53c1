/-
  THE WALKS: auth.Check.
  THE WALKS: auth.vote.
  THE WALKS: auth.Ask.
-/
import Derived.Test.YtpheiojmcafolaaGreatDoorSx13
import Derived.Test.YtpheiojmcafolaaGreatDoorSx11
import Derived.Maps.AppendAt
namespace Go.Proofs.YtpheiojmcafolaaGreatDoor
set_option maxRecDepth 100000
open Go.RowKit Go.Sort
theorem poSl_cells {w : World} {B : Nat} {A : Option Addr} {xs : List PoM} (h : PoSl w B A xs) {i : Nat} {x : PoM} (hx : xs[i]? = some x) : ∃ b o, A = some ⟨b, o, none⟩ ∧ b < B ∧
   w.cell? ⟨b, o + i * 15, none⟩ = some (.string x.p.name) ∧ w.cell? ⟨b, o + i * 15 + 1, none⟩ = some (.bool x.p.forbid) ∧
   w.cell? ⟨b, o + i * 15 + 2, none⟩ = some (.int .i64 x.p.who.op) ∧ w.cell? ⟨b, o + i * 15 + 3, none⟩ = some (.string x.p.who.ty) ∧ w.cell? ⟨b, o + i * 15 + 4, none⟩ = some (.string x.p.who.uid.ty) ∧ w.cell? ⟨b, o + i * 15 + 5, none⟩ = some (.string x.p.who.uid.id) ∧
   w.cell? ⟨b, o + i * 15 + 6, none⟩ = some (.int .i64 x.p.act.op) ∧ w.cell? ⟨b, o + i * 15 + 7, none⟩ = some (.string x.p.act.ty) ∧ w.cell? ⟨b, o + i * 15 + 8, none⟩ = some (.string x.p.act.uid.ty) ∧ w.cell? ⟨b, o + i * 15 + 9, none⟩ = some (.string x.p.act.uid.id) ∧
   w.cell? ⟨b, o + i * 15 + 10, none⟩ = some (.int .i64 x.p.what.op) ∧ w.cell? ⟨b, o + i * 15 + 11, none⟩ = some (.string x.p.what.ty) ∧ w.cell? ⟨b, o + i * 15 + 12, none⟩ = some (.string x.p.what.uid.ty) ∧ w.cell? ⟨b, o + i * 15 + 13, none⟩ = some (.string x.p.what.uid.id) ∧
   w.cell? ⟨b, o + i * 15 + 14, none⟩ = some (.slice x.A x.cs.length x.c) := by
 obtain ⟨b, o, e, hb, hc⟩ := poSl_at h hx
 exact ⟨b, o, e, hb, hc 0 _ rfl, hc 1 _ rfl, hc 2 _ rfl, hc 3 _ rfl, hc 4 _ rfl, hc 5 _ rfl, hc 6 _ rfl, hc 7 _ rfl, hc 8 _ rfl, hc 9 _ rfl, hc 10 _ rfl, hc 11 _ rfl, hc 12 _ rfl, hc 13 _ rfl, hc 14 _ rfl⟩
theorem Blk.kept {w w' : World} {g : Nat} {t : TypeId} {cs : Array Value} {row : Option Nat} (h : Blk w g t cs) (hg : w.grownBy w' row) (hn : some g ≠ row) : Blk w' g t cs := (hg.block g h.lt hn).trans h
set_option maxHeartbeats 12800000 in
theorem auth_Check (ps : List PoM) (A : Option Addr) (c : Nat) (w : World) (hI : PosIn w A ps) :
   Calls Tryz.prog 72 #[.slice A ps.length c] w fun r w' => r = .returned (errV (aErr ps)) ∧ RowKit.Below w.heap.size w w' := by
 obtain ⟨E, hE⟩ : ∃ E, aErr ps = E := ⟨_, rfl⟩
 rw [hE]
 have hmm := @run_makeMap Tryz.prog
 have HI := Lib.hid hI
 by_cases h12 : 12 < ps.length
 · have i12 : (12 : Int) < (ps.length : Int) := by omega
   obtain rfl : E = 4 := by rw [← hE]; unfold aErr authErr; rw [if_pos h12]
   clear hE hI
   go_enter Tryz.func72, Tryz.ntmps72
   go_wp2_with fail
   go_ret
   exact ⟨rfl, RowKit.Below.refl _ _⟩
 · have i12 : ¬ (12 : Int) < (ps.length : Int) := by omega
   have HE : Hid (authGo nmQ pe1Q pe2Q ps [] = E) := by show _ = _; rw [← hE]; unfold aErr authErr; rw [if_neg h12]
   have hw0 : RowKit.Below w.heap.size w (w.alloc (.map #[] 0)) := by (repeat (first | assumption | exact Below.refl _ _ | apply Below.drew | apply below_drewN | (refine Below.alloc ?_ (by first | exact Nat.le_refl _ | omega | (simp; done) | (simp; omega)) _)))
   have HN0 := Lib.hid (nm_made w)
   clear hE hI
   go_enter Tryz.func72, Tryz.ntmps72
   go_wp2_with fail
   go_loopw [20] (fun kk wr => ∃ k : Nat, kk = .int .i64 k ∧ k ≤ ps.length ∧ Hid (NmAt wr w.heap.size ((ps.take k).map nmQ)) ∧ Hid (authGo nmQ pe1Q pe2Q (ps.drop k) ((ps.take k).map nmQ) = E) ∧ RowKit.Below w.heap.size w wr) (fun kk _ => ps.length - (intOf kk).toNat)
   case atStart => exact ⟨0, rfl, by omega, HN0.out, HE.out, hw0⟩
   case round =>
     obtain ⟨k, rfl, hk, HN, HG, hbr⟩ := hrel
     have hzr := hbr.size
     have hmb := HN.out.lt
     by_cases hlt : k < ps.length
     · obtain ⟨x, hx⟩ : ∃ x, ps[k]? = some x := ⟨_, List.getElem?_eq_getElem hlt⟩
       obtain ⟨b, o, rfl, hb, d0, d1, d2, d3, d4, d5, d6, d7, d8, d9, d10, d11, d12, d13, d14⟩ := poSl_cells (HI.out.later hbr).sl hx
       have HMEM := Lib.hid (List.mem_of_getElem? hx)
       have HX := Lib.hid (HI.out.each x HMEM.out)
       have HT : Hid ((ps.take (k + 1)).map nmQ = (ps.take k).map nmQ ++ [x.p.name.toList]) := by show _ = _; rw [List.take_add_one, hx, List.map_append]; rfl
       have hG := HG.out
       rw [authGo_drop hx] at hG
       have hnsz : x.p.name.size ≤ maxLen := by have := HX.out.z.1; unfold maxLen; omega
       have hml : ((ps.take k).map nmQ).length ≤ 1000 := by rw [List.length_map, List.length_take]; omega
       have b0 : Blk (wr.alloc (.cells #[.string x.p.name, .bool x.p.forbid, .int .i64 x.p.who.op, .string x.p.who.ty, .string x.p.who.uid.ty, .string x.p.who.uid.id, .int .i64 x.p.act.op, .string x.p.act.ty, .string x.p.act.uid.ty, .string x.p.act.uid.id, .int .i64 x.p.what.op, .string x.p.what.ty, .string x.p.what.uid.ty, .string x.p.what.uid.id, .slice x.A x.cs.length x.c] 47)) wr.heap.size 47 #[.string x.p.name, .bool x.p.forbid, .int .i64 x.p.who.op, .string x.p.who.ty, .string x.p.who.uid.ty, .string x.p.who.uid.id, .int .i64 x.p.act.op, .string x.p.act.ty, .string x.p.act.uid.ty, .string x.p.act.uid.id, .int .i64 x.p.what.op, .string x.p.what.ty, .string x.p.what.uid.ty, .string x.p.what.uid.id, .slice x.A x.cs.length x.c] := Blk.new wr _ _
       have hb0 : RowKit.Below wr.heap.size wr (wr.alloc (.cells #[.string x.p.name, .bool x.p.forbid, .int .i64 x.p.who.op, .string x.p.who.ty, .string x.p.who.uid.ty, .string x.p.who.uid.id, .int .i64 x.p.act.op, .string x.p.act.ty, .string x.p.act.uid.ty, .string x.p.act.uid.id, .int .i64 x.p.what.op, .string x.p.what.ty, .string x.p.what.uid.ty, .string x.p.what.uid.id, .slice x.A x.cs.length x.c] 47)) := by (repeat (first | assumption | exact Below.refl _ _ | apply Below.drew | apply below_drewN | (refine Below.alloc ?_ (by first | exact Nat.le_refl _ | omega | (simp; done) | (simp; omega)) _)))
       have HK := Lib.hid (fun W (hW : RowKit.Below w.heap.size w W) => pol_Check x.p x.cs x.A x.c W HX.out.same HX.out.z (HX.out.later hW).at_ (Nat.le_trans HX.out.le HX.out.max))
       have HP := Lib.hid (fun W (hW : RowKit.Below w.heap.size w W) => pol_Expr_any x.p x.cs x.A x.c W HX.out.same HX.out.z (HX.out.later hW).at_ (Nat.le_trans HX.out.le HX.out.max))
       have HS := Lib.hid (fun W (hW : RowKit.Below w.heap.size w W) hk => link_Slots x.p x.cs x.A x.c W HX.out.same HX.out.z (HX.out.later hW).at_ (Nat.le_trans HX.out.le HX.out.max) hk)
       have HN1 := Lib.hid (HN.out.below hb0)
       have B1 := Lib.hid b0
       have HB1 := Lib.hid hb0
       clear hx HG b0 hb0 HN
       go_wp2_with fail
       refine (HK.out _ (hbr.trans (HB1.out.mono hzr))).mono ?_
       rintro r w2 ⟨rfl, hb2⟩
       have B2 := Lib.hid (B1.out.below hb2 B1.out.lt)
       have HB2 := Lib.hid (HB1.out.trans (hb2.mono HB1.out.size))
       have HN2 := Lib.hid (HN1.out.below hb2)
       clear hb2 B1 HB1 HN1 HK
       by_cases k1 : polErr x.p = 0
       case neg =>
         have t1 : (polErr x.p != 0) = true := by simpa using k1
         rw [show pe1Q x = polErr x.p from rfl] at hG
         rw [if_pos k1] at hG
         subst hG
         clear k1
         go_wp2_with fail
         go_ret
         exact ⟨rfl, hbr.trans (HB2.out.mono hzr)⟩
       have t1 : (polErr x.p != 0) = false := by simpa using k1
       have HK1 := Lib.hid k1
       rw [show pe1Q x = polErr x.p from rfl] at hG
       rw [if_neg (by simp [k1])] at hG
       have c0 : w2.cell? ⟨wr.heap.size, 0, none⟩ = some (.string x.p.name) := B2.out.cell 0
       have l0 : wr.heap.size < w2.heap.size := B2.out.lt
       obtain ⟨v2, hv2⟩ := nm_look HN2.out hnsz
       clear k1
       by_cases hin : x.p.name.toList ∈ (ps.take k).map nmQ
       · rw [decide_eq_true hin] at hv2
         have : E = 6 := by
           have h2 : nmQ x ∈ (ps.take k).map nmQ := hin
           rw [if_pos h2] at hG; exact hG.symm
         subst this
         clear hG hin
         go_wp2_with fail
         go_ret
         exact ⟨rfl, hbr.trans (HB2.out.mono hzr)⟩
       rw [decide_eq_false hin] at hv2
       have h2 : ¬ nmQ x ∈ (ps.take k).map nmQ := hin
       rw [if_neg h2] at hG
       obtain ⟨w3, hr3, hm3, hg3⟩ := nm_put HN2.out hnsz hml (i := k) (by omega)
       rw [← HT.out] at hm3
       have HM3 := Lib.hid hm3
       have B3 := Lib.hid (B2.out.kept hg3 (by intro e; injection e with e; omega))
       have HB3 : Hid (RowKit.Below w.heap.size w w3) := (hbr.trans (HB2.out.mono hzr)).grown hg3 (by omega) (fun j hj => by injection hj with hj; omega)
       have c3 := B3.out.cell
       have l3 := B3.out.lt
       clear h2 hin hm3 hg3 HN2 B2 HB2
       go_wp2_with fail
       clear c0 l0 hv2
       refine (HP.out _ HB3.out).mono ?_
       rintro r w4 ⟨A4, c4, rfl, hl4, hm4, hs4, hb4⟩
       have B4 := Lib.hid (B3.out.below hb4 B3.out.lt)
       have HB4 := Lib.hid (HB3.out.trans (hb4.mono HB3.out.size))
       have HM4 := Lib.hid (HM3.out.below hb4)
       clear hl4 hm4 hs4 hb4 HB3 B3 HM3 HP c3 l3 hr3
       obtain ⟨k2, hk2⟩ : ∃ k2, (exprP x.p).2 = k2 := ⟨_, rfl⟩
       rw [hk2]
       by_cases e2 : k2 = 0
       case neg =>
         have t2 : (k2 != 0) = true := by simpa using e2
         have hE2 : E = k2 := by
           rw [show pe2Q x = (if (exprP x.p).2 ≠ 0 then (exprP x.p).2 else if slotsP x.p = [] then 0 else 1) from rfl] at hG
           rw [hk2, if_pos e2, if_pos e2] at hG
           exact hG.symm
         subst hE2
         clear hG hk2 e2
         go_wp2_with fail
         go_ret
         exact ⟨rfl, HB4.out⟩
       have t2 : (k2 != 0) = false := by simpa using e2
       have c4 := B4.out.cell
       have l4 := B4.out.lt
       have HGx := Lib.hid hG
       have HK2 : Hid ((exprP x.p).2 = 0) := by show _ = _; rw [hk2, e2]
       clear hG hk2
       subst e2
       go_wp2_with fail
       refine (HS.out _ HB4.out HK1.out).mono ?_
       rintro r w5 ⟨A5, c5, rfl, hl5, hm5, hs5, hb5⟩
       have HB5 := Lib.hid (HB4.out.trans (hb5.mono HB4.out.size))
       have HM5 := Lib.hid (HM4.out.below hb5)
       clear hl5 hm5 hs5 hb5 HB4 B4 HM4 HS c4 l4
       have hG := HGx.out
       rw [show pe2Q x = (if (exprP x.p).2 ≠ 0 then (exprP x.p).2 else if slotsP x.p = [] then 0 else 1) from rfl] at hG
       rw [if_neg (by simp [HK2.out] : ¬ ((exprP x.p).2 ≠ 0))] at hG
       by_cases hs : slotsP x.p = []
       · have e0 : (if slotsP x.p = [] then (0 : Int) else 1) = 0 := if_pos hs
         rw [e0, if_neg (by simp : ¬ ((0 : Int) ≠ 0))] at hG
         have HG2 : Hid (authGo nmQ pe1Q pe2Q (ps.drop (k + 1)) ((ps.take (k + 1)).map nmQ) = E) := by show _ = _; rw [HT.out]; exact hG
         have hz : (slotsP x.p).length = 0 := by rw [hs]; rfl
         rw [hz]
         clear hG hs hz HGx
         go_wp2_with fail
         exact ⟨⟨k + 1, by go_num, by omega, HM5, HG2, HB5.out⟩, by simp [intOf]; omega⟩
       · have e0 : (if slotsP x.p = [] then (0 : Int) else 1) = 1 := if_neg hs
         rw [e0, if_pos (by simp : (1 : Int) ≠ 0)] at hG
         have hpos : 0 < (slotsP x.p).length := List.length_pos_iff.2 hs
         subst hG
         clear hs HGx
         generalize (slotsP x.p).length = ns at hpos
         have hpos' : (0 : Int) < (ns : Int) := by omega
         go_wp2_with fail
         go_ret
         exact ⟨rfl, HB5.out⟩
     · have HE2 : Hid (E = 0) := by
         show _ = _
         have := HG.out
         rw [List.drop_eq_nil_of_le (by omega)] at this
         exact this.symm
       have := HE2.out
       subst this
       go_wp2_with fail
       go_ret
       exact ⟨rfl, hbr⟩
end Go.Proofs.YtpheiojmcafolaaGreatDoor
namespace Go.Proofs.YtpheiojmcafolaaGreatDoor
set_option maxRecDepth 100000
open Go.RowKit Go.Sort
structure AqIn (x : Aq) (w : World) : Prop where
 ents : EntsIn w x.Ea x.hs x.es
 ai : ∀ e ∈ x.es, NdI e.at_
 ec : x.hs.length ≤ x.ec
 ctx : NdSl w w.heap.size x.qa x.q.ctx
 qc : x.q.ctx.length ≤ x.qc ∧ x.qc ≤ 9223372036854775807
 qk : NdOk x.q.ctx
 qi : NdI x.q.ctx
 qz : UdOk x.q.who ∧ UdOk x.q.act ∧ UdOk x.q.what
 err : ErrCell w
theorem AqIn.later {x : Aq} {w w' : World} (h : AqIn x w) (hb : RowKit.Below w.heap.size w w') : AqIn x w' :=
 ⟨h.ents.later hb, h.ai, h.ec, (h.ctx.below hb).more hb.size, h.qc, h.qk, h.qi, h.qz, h.err.below hb h.err.lt⟩
def Aq.ev (x : Aq) (e : List Nd) (ea : Option Addr) (eca : Nat) : Evl := ⟨x.es, x.hs, x.Ea, x.ec, x.q, x.qa, x.qc, e, ea, eca⟩
theorem AqIn.va {x : Aq} {w : World} (h : AqIn x w) {e : List Nd} {ea : Option Addr} {eca : Nat} (h1 : NdSl w w.heap.size ea e) (h2 : e.length ≤ eca) (h3 : eca ≤ 9223372036854775807) (h4 : NdOk e) (h5 : NdI e) : VaIn (x.ev e ea eca) w :=
 ⟨h.ents, h.ai, h.ec, h.ctx, h.qc, h.qk, h.qi, h.qz, h1, ⟨h2, h3⟩, h4, h5, h.err⟩
def vtR (V : Rs (List Nd)) : Int := match V with
 | .ok v => if opH v = 1 then (if nH v = 1 then 1 else 0) else -1
 | .bad _ => -1
theorem valueR_ok {es : List En} {q : Rq} {e v : List Nd} (h : valueR es q e = .ok v) : valErr v = 0 := by
 unfold valueR at h
 split at h
 · cases h
 · split at h
   · cases h
   · rename_i hq
     split at h
     · cases h
     · rename_i ht
       exact evE_vx (Classical.not_not.1 hq) _ e ((tree_iff e).1 (Classical.not_not.1 ht)).2 h
theorem valueR_nz {es : List En} {q : Rq} {e : List Nd} {k : Int} (h : valueR es q e = .bad k) : k ≠ 0 := by
 unfold valueR at h
 split at h
 · rename_i h1; injection h with h; rw [← h]; exact h1
 · split at h
   · rename_i h1; injection h with h; rw [← h]; exact h1
   · split at h
     · rename_i h1; injection h with h; rw [← h]; exact h1
     · rename_i ht
       exact nz_ev es q _ e (Nat.le_refl _) ((tree_iff e).1 (Classical.not_not.1 ht)).2 k h
set_option maxHeartbeats 6400000 in
theorem auth_vote (x : Aq) (y : PoM) (w : World) (hI : AqIn x w) (hy : PoMOk w w.heap.size y) (h2 : (exprP y.p).2 = 0) :
   Calls Tryz.prog 73 #[.slice x.Ea x.hs.length x.ec, .agg #[.string y.p.name, .bool y.p.forbid, .int .i64 y.p.who.op, .string y.p.who.ty, .string y.p.who.uid.ty, .string y.p.who.uid.id, .int .i64 y.p.act.op, .string y.p.act.ty, .string y.p.act.uid.ty, .string y.p.act.uid.id, .int .i64 y.p.what.op, .string y.p.what.ty, .string y.p.what.uid.ty, .string y.p.what.uid.id, .slice y.A y.cs.length y.c], .agg #[.string x.q.who.ty, .string x.q.who.id, .string x.q.act.ty, .string x.q.act.id, .string x.q.what.ty, .string x.q.what.id, .slice x.qa x.q.ctx.length x.qc]] w fun r w' => r = .returned (.tuple #[.bool (vtQ x.es x.q y == 1), .bool (vtQ x.es x.q y == -1)]) ∧ RowKit.Below w.heap.size w w' := by
 obtain ⟨hk, hL, ht⟩ := exprP_tree h2
 have hni : NdI (exprP y.p).1 := exprP_i64 h2 (fun c hc => by rw [hy.same] at hc; obtain ⟨z, hz, rfl⟩ := List.mem_map.1 hc; exact hy.ni z hz)
 have HP := Lib.hid (fun W (hW : RowKit.Below w.heap.size w W) => pol_Expr_any y.p y.cs y.A y.c W hy.same hy.z (hy.later hW).at_ (Nat.le_trans hy.le hy.max))
 have HV := Lib.hid (fun W (hW : RowKit.Below w.heap.size w W) A' c' (h1 : NdSl W W.heap.size A' (exprP y.p).1) (g2 : (exprP y.p).1.length ≤ c') (g3 : c' ≤ 9223372036854775807) => eval_Value (x.ev (exprP y.p).1 A' c') W ((hI.later hW).va h1 g2 g3 (tree_ok ht) hni))
 rw [h2] at HP
 have b0 : Blk ((w.alloc (.cells #[.string y.p.name, .bool y.p.forbid, .int .i64 y.p.who.op, .string y.p.who.ty, .string y.p.who.uid.ty, .string y.p.who.uid.id, .int .i64 y.p.act.op, .string y.p.act.ty, .string y.p.act.uid.ty, .string y.p.act.uid.id, .int .i64 y.p.what.op, .string y.p.what.ty, .string y.p.what.uid.ty, .string y.p.what.uid.id, .slice y.A y.cs.length y.c] 47)).alloc (.cells #[.string x.q.who.ty, .string x.q.who.id, .string x.q.act.ty, .string x.q.act.id, .string x.q.what.ty, .string x.q.what.id, .slice x.qa x.q.ctx.length x.qc] 39)) (w.heap.size + 1) 39 #[.string x.q.who.ty, .string x.q.who.id, .string x.q.act.ty, .string x.q.act.id, .string x.q.what.ty, .string x.q.what.id, .slice x.qa x.q.ctx.length x.qc] := by
   have := Blk.new (w.alloc (.cells #[.string y.p.name, .bool y.p.forbid, .int .i64 y.p.who.op, .string y.p.who.ty, .string y.p.who.uid.ty, .string y.p.who.uid.id, .int .i64 y.p.act.op, .string y.p.act.ty, .string y.p.act.uid.ty, .string y.p.act.uid.id, .int .i64 y.p.what.op, .string y.p.what.ty, .string y.p.what.uid.ty, .string y.p.what.uid.id, .slice y.A y.cs.length y.c] 47)) 39 #[.string x.q.who.ty, .string x.q.who.id, .string x.q.act.ty, .string x.q.act.id, .string x.q.what.ty, .string x.q.what.id, .slice x.qa x.q.ctx.length x.qc]
   rwa [World.size_alloc] at this
 have hb0 : RowKit.Below w.heap.size w ((w.alloc (.cells #[.string y.p.name, .bool y.p.forbid, .int .i64 y.p.who.op, .string y.p.who.ty, .string y.p.who.uid.ty, .string y.p.who.uid.id, .int .i64 y.p.act.op, .string y.p.act.ty, .string y.p.act.uid.ty, .string y.p.act.uid.id, .int .i64 y.p.what.op, .string y.p.what.ty, .string y.p.what.uid.ty, .string y.p.what.uid.id, .slice y.A y.cs.length y.c] 47)).alloc (.cells #[.string x.q.who.ty, .string x.q.who.id, .string x.q.act.ty, .string x.q.act.id, .string x.q.what.ty, .string x.q.what.id, .slice x.qa x.q.ctx.length x.qc] 39)) := by (repeat (first | assumption | exact Below.refl _ _ | apply Below.drew | apply below_drewN | (refine Below.alloc ?_ (by first | exact Nat.le_refl _ | omega | (simp; done) | (simp; omega)) _)))
 have B0 := Lib.hid b0
 have HB0 := Lib.hid hb0
 obtain ⟨V, hV⟩ : ∃ V, valueR x.es x.q (exprP y.p).1 = V := ⟨_, rfl⟩
 have hvt : vtQ x.es x.q y = vtR V := by unfold vtQ; rw [hV]; rfl
 rw [hvt]
 have hV2 : valueR (x.ev (exprP y.p).1 none 0).es (x.ev (exprP y.p).1 none 0).q (x.ev (exprP y.p).1 none 0).e = V := hV
 have HV3 : Hid (∀ W, RowKit.Below w.heap.size w W → ∀ A' c', NdSl W W.heap.size A' (exprP y.p).1 → (exprP y.p).1.length ≤ c' → c' ≤ 9223372036854775807 → Calls Tryz.prog 19 #[.slice x.Ea x.hs.length x.ec, .agg #[.string x.q.who.ty, .string x.q.who.id, .string x.q.act.ty, .string x.q.act.id, .string x.q.what.ty, .string x.q.what.id, .slice x.qa x.q.ctx.length x.qc], .slice A' (exprP y.p).1.length c'] W fun r w' => NdsNewE W r w' (rsL V) (rsE V)) := by
   intro W hW A' c' a1 a2 a3
   have := HV.out W hW A' c' a1 a2 a3
   rw [← hV]
   exact this
 have hok : ∀ v, V = .ok v → valErr v = 0 := fun v e => valueR_ok (hV.trans e)
 have hnz : ∀ k, V = .bad k → k ≠ 0 := fun k e => valueR_nz (hV.trans e)
 clear HV hV hV2 hvt b0 hb0 hI hy hk hL ht hni h2
 generalize (exprP y.p).1 = L at HP HV3
 cases V with
 | bad k =>
   have hk := hnz k rfl
   rw [show vtR (Rs.bad k) = -1 from rfl]
   have t1 : (k != 0) = true := by simpa using hk
   rw [show rsL (Rs.bad k : Rs (List Nd)) = [] from rfl, show rsE (Rs.bad k : Rs (List Nd)) = k from rfl] at HV3
   clear hok hnz hk
   go_enter Tryz.func73, Tryz.ntmps73
   go_wp2_with fail
   refine (HP.out _ HB0.out).mono ?_
   rintro r w1 ⟨A1, c1, rfl, hl1, hm1, hs1, hb1⟩
   have B1 := Lib.hid (B0.out.below hb1 B0.out.lt)
   have HB1 := Lib.hid (HB0.out.trans (hb1.mono HB0.out.size))
   have HS1 := Lib.hid hs1
   have cc := B1.out.cell
   have ll := B1.out.lt
   clear hb1 hs1 B0 HB0
   go_wp2_with fail
   refine (HV3.out _ HB1.out _ _ HS1.out hl1 hm1).mono ?_
   rintro r w2 ⟨A2, c2, rfl, hl2, hm2, hs2, hb2, -⟩
   go_wp2_with fail
   go_ret2
   exact ⟨rfl, HB1.out.trans (hb2.mono HB1.out.size)⟩
 | ok v =>
   have hv := hok v rfl
   obtain ⟨z, rr, rfl, -⟩ := ((val_iff v).1 hv).2.ne
   rw [show rsL (Rs.ok (z :: rr) : Rs (List Nd)) = z :: rr from rfl, show rsE (Rs.ok (z :: rr) : Rs (List Nd)) = 0 from rfl] at HV3
   have hvt2 : vtR (Rs.ok (z :: rr)) = if z.op = 1 then (if z.n = 1 then 1 else 0) else -1 := rfl
   rw [hvt2]
   clear hok hnz hv hvt2
   by_cases h1 : z.op = 1
   · have t1 : (z.op != 1) = false := by simp [h1]
     have e1 : ((if z.op = 1 then (if z.n = 1 then (1 : Int) else 0) else -1) == 1) = (z.n == 1) := by
       rw [if_pos h1]; by_cases h : z.n = 1 <;> simp [h]
     have e2 : ((if z.op = 1 then (if z.n = 1 then (1 : Int) else 0) else -1) == -1) = false := by
       rw [if_pos h1]; by_cases h : z.n = 1 <;> simp [h]
     rw [e1, e2]
     clear h1 e1 e2
     go_enter Tryz.func73, Tryz.ntmps73
     go_wp2_with fail
     refine (HP.out _ HB0.out).mono ?_
     rintro r w1 ⟨A1, c1, rfl, hl1, hm1, hs1, hb1⟩
     have B1 := Lib.hid (B0.out.below hb1 B0.out.lt)
     have HB1 := Lib.hid (HB0.out.trans (hb1.mono HB0.out.size))
     have HS1 := Lib.hid hs1
     have cc := B1.out.cell
     have ll := B1.out.lt
     clear hb1 hs1 B0 HB0
     go_wp2_with fail
     refine (HV3.out _ HB1.out _ _ HS1.out hl1 hm1).mono ?_
     rintro r w2 ⟨A2, c2, rfl, hl2, hm2, hs2, hb2, -⟩
     obtain ⟨b, o, rfl, hbl, hcs⟩ := hs2 (by simp)
     obtain ⟨d0, d1, d2, d3⟩ := hcs 0 z rfl
     rw [Nat.zero_mul, Nat.add_zero] at d0 d1
     have HB2 := Lib.hid (HB1.out.trans (hb2.mono HB1.out.size))
     have hzl : (z :: rr).length = rr.length + 1 := rfl
     rw [hzl]
     clear hcs hb2 hl2 hm2 cc ll B1 HB1 HS1 hzl
     go_wp2_with fail
     go_ret2
     exact ⟨rfl, HB2.out⟩
   · have t1 : (z.op != 1) = true := by simpa using h1
     have e1 : ((if z.op = 1 then (if z.n = 1 then (1 : Int) else 0) else -1) == 1) = false := by rw [if_neg h1]; rfl
     have e2 : ((if z.op = 1 then (if z.n = 1 then (1 : Int) else 0) else -1) == -1) = true := by rw [if_neg h1]; rfl
     rw [e1, e2]
     clear h1 e1 e2
     go_enter Tryz.func73, Tryz.ntmps73
     go_wp2_with fail
     refine (HP.out _ HB0.out).mono ?_
     rintro r w1 ⟨A1, c1, rfl, hl1, hm1, hs1, hb1⟩
     have B1 := Lib.hid (B0.out.below hb1 B0.out.lt)
     have HB1 := Lib.hid (HB0.out.trans (hb1.mono HB0.out.size))
     have HS1 := Lib.hid hs1
     have cc := B1.out.cell
     have ll := B1.out.lt
     clear hb1 hs1 B0 HB0
     go_wp2_with fail
     refine (HV3.out _ HB1.out _ _ HS1.out hl1 hm1).mono ?_
     rintro r w2 ⟨A2, c2, rfl, hl2, hm2, hs2, hb2, -⟩
     obtain ⟨b, o, rfl, hbl, hcs⟩ := hs2 (by simp)
     obtain ⟨d0, d1, d2, d3⟩ := hcs 0 z rfl
     rw [Nat.zero_mul, Nat.add_zero] at d0 d1
     have HB2 := Lib.hid (HB1.out.trans (hb2.mono HB1.out.size))
     have hzl : (z :: rr).length = rr.length + 1 := rfl
     rw [hzl]
     clear hcs hb2 hl2 hm2 cc ll B1 HB1 HS1 hzl
     go_wp2_with fail
     go_ret2
     exact ⟨rfl, HB2.out⟩
end Go.Proofs.YtpheiojmcafolaaGreatDoor
namespace Go.Proofs.YtpheiojmcafolaaGreatDoor
set_option maxRecDepth 100000
open Go.RowKit Go.Sort
def AnsBack (w : World) (r : Ending) (w' : World) (b : Bool) (by_ wr : List (List UInt8)) (k : Int) : Prop :=
 ∃ A1 c1 A2 c2, r = .returned (.tuple #[.agg #[.bool b, .slice A1 by_.length c1, .slice A2 wr.length c2], errV k]) ∧ by_.length ≤ c1 ∧ c1 ≤ 9223372036854775807 ∧ wr.length ≤ c2 ∧ c2 ≤ 9223372036854775807 ∧
   StrSl w' w'.heap.size A1 by_ ∧ StrSl w' w'.heap.size A2 wr ∧ RowKit.Below w.heap.size w w'
theorem own_far2 {w : World} {base : Nat} {e : TypeId} {size : Nat} {v : Value} {n : Nat} {xs : List Value} (h : w.ownsRow base e size v n xs) {p : Addr} (hp : v.ownBlock ≠ some p.block) (u : Value) : (w.setCell p u).ownsRow base e size v n xs :=
 h.kept (row := some p.block) ⟨rfl, rfl, rfl, by simp, fun k hk hne => Below.heap_setCell w p u k (by intro e; apply hne; rw [e])⟩ (.inr hp)
theorem own_keep2 {B k n : Nat} {e : TypeId} {v : Value} {xs : List Value} {w w' : World} (h : w.ownsRow B e k v n xs) (hb : RowKit.Below w.heap.size w w') : w'.ownsRow B e k v n xs := own_later h hb
theorem own_apart {w w' : World} {base : Nat} {e : TypeId} {size : Nat} {v v0 : Value} {n : Nat} {xs : List Value} (h : w.ownsRow base e size v n xs) (hg : w.grownBy w' v0.ownBlock) (hd : ∀ b, v0.ownBlock = some b → v.ownBlock ≠ some b) : w'.ownsRow base e size v n xs := by
 refine h.kept hg ?_
 cases hv : v.ownBlock with
 | none => exact .inl rfl
 | some b =>
   refine .inr fun e => ?_
   exact hd b e.symm hv
theorem own_sl_str {w : World} {base c : Nat} {A : Option Addr} {ss : List (List UInt8)} (h : w.ownsRow base 9 1 (.slice A ss.length c) ss.length (ss.map encStr)) : StrSl w w.heap.size A ss := by
 obtain ⟨A', c', e, _, _, s⟩ := own_strs2 h rfl
 injection e with e1
 subst e1
 exact s
structure Rows3 (w : World) (ab : Nat) (pv fv wv : Value) (P F W : List (List UInt8)) : Prop where
 p : w.ownsRow (ab + 1) 9 1 pv P.length (P.map encStr)
 f : w.ownsRow (ab + 1) 9 1 fv F.length (F.map encStr)
 ww : w.ownsRow (ab + 1) 9 1 wv W.length (W.map encStr)
 pf : ∀ b, pv.ownBlock = some b → fv.ownBlock ≠ some b
 pw : ∀ b, pv.ownBlock = some b → wv.ownBlock ≠ some b
 fw : ∀ b, fv.ownBlock = some b → wv.ownBlock ≠ some b
 a : Blk w ab 70 #[.bool false, .slice none 0 0, wv]
theorem Rows3.later {w w' : World} {ab : Nat} {pv fv wv : Value} {P F W : List (List UInt8)} (h : Rows3 w ab pv fv wv P F W) (hb : RowKit.Below w.heap.size w w') : Rows3 w' ab pv fv wv P F W :=
 ⟨own_later h.p hb, own_later h.f hb, own_later h.ww hb, h.pf, h.pw, h.fw, h.a.below hb h.a.lt⟩
theorem locs {w : World} {v v' u : Value} {base n k : Nat} {e : TypeId} {xs : List Value} (hu : w.ownsRow base e k u n xs) (h : ∀ b, v.ownBlock = some b → u.ownBlock ≠ some b) (hl : v'.ownBlock = v.ownBlock ∨ v'.ownBlock = some w.heap.size) : ∀ b, v'.ownBlock = some b → u.ownBlock ≠ some b := fun b hb hc => by
 rcases hl with hl | hl
 · exact h b (hl ▸ hb) hc
 · rw [hl] at hb
   injection hb with hb
   have := (own_lt hu hc).2
   omega
theorem swapL {u v : Value} (h : ∀ b, v.ownBlock = some b → u.ownBlock ≠ some b) : ∀ b, u.ownBlock = some b → v.ownBlock ≠ some b := fun b hb hc => h b hc hb
theorem Rows3.growP {w w' : World} {ab : Nat} {pv pv' fv wv : Value} {P F W : List (List UInt8)} {s : List UInt8} (h : Rows3 w ab pv fv wv P F W) (ho : w'.ownsRow (ab + 1) 9 1 pv' (P.length + 1) (P.map encStr ++ [encStr s])) (hg : w.grownBy w' pv.ownBlock)
   (hl : pv'.ownBlock = pv.ownBlock ∨ pv'.ownBlock = some w.heap.size) : Rows3 w' ab pv' fv wv (P ++ [s]) F W :=
 ⟨by rw [List.length_append, List.map_append]; exact ho, own_apart h.f hg h.pf, own_apart h.ww hg h.pw, locs h.f h.pf hl, locs h.ww h.pw hl, h.fw, h.a.kept hg (fun e => by have := (own_lt h.p e.symm).1; omega)⟩
theorem Rows3.growF {w w' : World} {ab : Nat} {pv fv fv' wv : Value} {P F W : List (List UInt8)} {s : List UInt8} (h : Rows3 w ab pv fv wv P F W) (ho : w'.ownsRow (ab + 1) 9 1 fv' (F.length + 1) (F.map encStr ++ [encStr s])) (hg : w.grownBy w' fv.ownBlock)
   (hl : fv'.ownBlock = fv.ownBlock ∨ fv'.ownBlock = some w.heap.size) : Rows3 w' ab pv fv' wv P (F ++ [s]) W :=
 ⟨own_apart h.p hg (swapL h.pf), by rw [List.length_append, List.map_append]; exact ho, own_apart h.ww hg h.fw, swapL (locs h.p (swapL h.pf) hl), h.pw, locs h.ww h.fw hl, h.a.kept hg (fun e => by have := (own_lt h.f e.symm).1; omega)⟩
theorem Rows3.growW {w w' : World} {ab : Nat} {pv fv wv wv' : Value} {P F W : List (List UInt8)} {s : List UInt8} (h : Rows3 w ab pv fv wv P F W) (ho : w'.ownsRow (ab + 1) 9 1 wv' (W.length + 1) (W.map encStr ++ [encStr s])) (hg : w.grownBy w' wv.ownBlock)
   (hl : wv'.ownBlock = wv.ownBlock ∨ wv'.ownBlock = some w.heap.size) : Blk w' ab 70 #[.bool false, .slice none 0 0, wv] ∧ Rows3 (w'.setCell ⟨ab, 2, none⟩ wv') ab pv fv wv' P F (W ++ [s]) := by
 have ha : Blk w' ab 70 #[.bool false, .slice none 0 0, wv] := h.a.kept hg (fun e => by have := (own_lt h.ww e.symm).1; omega)
 have far : ∀ {v : Value} {n : Nat} {xs : List Value}, w'.ownsRow (ab + 1) 9 1 v n xs → v.ownBlock ≠ some ab := fun hv e => by have := (own_lt hv e).1; omega
 have p' := own_apart h.p hg (swapL h.pw)
 have f' := own_apart h.f hg (swapL h.fw)
 refine ⟨ha, ⟨own_far2 p' (far p') _, own_far2 f' (far f') _, ?_, h.pf, swapL (locs h.p (swapL h.pw) hl), swapL (locs h.f (swapL h.fw) hl), ha.set 2 wv'⟩⟩
 rw [List.length_append, List.map_append]
 exact own_far2 ho (far ho) _
theorem filt_step {α : Type} {f : α → Bool} {nm : α → List UInt8} {ps : List α} {k : Nat} {y : α} (h : ps[k]? = some y) : ((ps.take (k + 1)).filter f).map nm = ((ps.take k).filter f).map nm ++ (if f y = true then [nm y] else []) := by
 rw [List.take_add_one, h, List.filter_append, List.map_append]
 congr 1
 show (List.filter f [y]).map nm = _
 by_cases e : f y = true
 · rw [if_pos e]; simp [e]
 · rw [if_neg e]; simp [e]
theorem filt_len {α : Type} {f : α → Bool} {nm : α → List UInt8} {ps : List α} {k : Nat} : (((ps.take k).filter f).map nm).length ≤ k := by
 rw [List.length_map]
 exact Nat.le_trans (List.length_filter_le _ _) (List.length_take_le _ _)
theorem vtQ_cases (es : List En) (q : Rq) (y : PoM) : vtQ es q y = 1 ∨ vtQ es q y = 0 ∨ vtQ es q y = -1 := by
 unfold vtQ
 split
 · split
   · split
     · exact .inl rfl
     · exact .inr (.inl rfl)
   · exact .inr (.inr rfl)
 · exact .inr (.inr rfl)
theorem errV_shape (k : Int) : errV k = .nilIface ∨ errV k = .iface 96 (.int .i64 k) := by
 unfold errV
 split
 · exact .inl rfl
 · exact .inr rfl
def RqS (b : Nat) (x : Aq) (w W : World) : Prop :=
 W.cell? ⟨b, 0, none⟩ = some (.string x.q.who.ty) ∧ W.cell? ⟨b, 1, none⟩ = some (.string x.q.who.id) ∧ W.cell? ⟨b, 2, none⟩ = some (.string x.q.act.ty) ∧ W.cell? ⟨b, 3, none⟩ = some (.string x.q.act.id) ∧ W.cell? ⟨b, 4, none⟩ = some (.string x.q.what.ty) ∧ W.cell? ⟨b, 5, none⟩ = some (.string x.q.what.id) ∧
   W.cell? ⟨b, 6, none⟩ = some (.slice x.qa x.q.ctx.length x.qc) ∧ RowKit.Below w.heap.size w W
abbrev rqC (x : Aq) : Array Value := #[.string x.q.who.ty, .string x.q.who.id, .string x.q.act.ty, .string x.q.act.id, .string x.q.what.ty, .string x.q.what.id, .slice x.qa x.q.ctx.length x.qc]
theorem RqS.of {b : Nat} {x : Aq} {w W : World} {T : TypeId} (h : Blk W b T (rqC x)) (hb : RowKit.Below w.heap.size w W) : RqS b x w W :=
 ⟨h.cell 0, h.cell 1, h.cell 2, h.cell 3, h.cell 4, h.cell 5, h.cell 6, hb⟩
end Go.Proofs.YtpheiojmcafolaaGreatDoor
