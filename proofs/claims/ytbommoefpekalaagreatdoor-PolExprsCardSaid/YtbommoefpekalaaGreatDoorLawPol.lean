/-
  THE WALK of the law PolExprs.
-/
import Derived.Test.YtbommoefpekalaaGreatDoorRx3
import Derived.Test.YtbommoefpekalaaGreatDoorSameN
import Derived.Test.YtbommoefpekalaaGreatDoorTold
import Derived.Deep.RegionHeld3
namespace Go.Proofs.YtbommoefpekalaaGreatDoor
open Go.RowKit Go.Sort

set_option maxRecDepth 100000 in
set_option maxHeartbeats 3200000 in
theorem pol_ExprBad (p : Po) (cs : List CdM) (A : Option Addr) (c : Nat) (w : World) (hp : p.conds = cs.map CdM.cd) (hz : PoZ p) (hc : CdsAt w w.heap.size A cs) (hl : cs.length ≤ 9223372036854775807) (hk : ¬ polErr p = 0) :
    Calls Tryz.prog 20 #[.agg #[.string p.name, .bool p.forbid, .int .i64 p.who.op, .string p.who.ty, .string p.who.uid.ty, .string p.who.uid.id, .int .i64 p.act.op, .string p.act.ty, .string p.act.uid.ty, .string p.act.uid.id, .int .i64 p.what.op, .string p.what.ty, .string p.what.uid.ty, .string p.what.uid.id, .slice A cs.length c]] w fun e w' => NdsBack w e w' (exprP p).1 (exprP p).2 := by
  have HK := Lib.hid (fun (W : World) h => pol_Check p cs A c W hp hz h hl)
  have HC := Lib.hid hc
  have HE : Hid (exprP p = ([], polErr p)) := by show _ = _; unfold exprP; rw [if_pos hk]
  rw [HE.out]
  have tk : (polErr p != 0) = true := by simp [hk]
  clear hp hc hz hk HE
  generalize polErr p = k at HK tk ⊢
  go_enter Tryz.func20, Tryz.ntmps20
  go_wp2_with fail
  refine (HK.out _ (HC.out.later (by (repeat (first | assumption | exact Below.refl _ _ | apply Below.drew | apply below_drewN | (refine Below.alloc ?_ (by first | exact Nat.le_refl _ | omega | (simp; done) | (simp; omega)) _)))))).mono ?_
  rintro r w1 ⟨rfl, hb1⟩
  have hw1 : RowKit.Below w.heap.size w w1 := ((RowKit.Below.refl _ _).alloc (Nat.le_refl _) _).trans (hb1.mono (by simp))
  clear hb1 HK
  go_wp2_with fail
  go_ret2
  exact NdsBack.none hw1
theorem pol_Expr_any (p : Po) (cs : List CdM) (A : Option Addr) (c : Nat) (w : World) (hp : p.conds = cs.map CdM.cd) (hz : PoZ p) (hc : CdsAt w w.heap.size A cs) (hl : cs.length ≤ 9223372036854775807) :
    Calls Tryz.prog 20 #[.agg #[.string p.name, .bool p.forbid, .int .i64 p.who.op, .string p.who.ty, .string p.who.uid.ty, .string p.who.uid.id, .int .i64 p.act.op, .string p.act.ty, .string p.act.uid.ty, .string p.act.uid.id, .int .i64 p.what.op, .string p.what.ty, .string p.what.uid.ty, .string p.what.uid.id, .slice A cs.length c]] w fun e w' => NdsBack w e w' (exprP p).1 (exprP p).2 := by
  by_cases hk : polErr p = 0
  · exact pol_Expr p cs A c w hp hz hc hl hk
  · exact pol_ExprBad p cs A c w hp hz hc hl hk
set_option maxRecDepth 100000 in
set_option maxHeartbeats 3200000 in
theorem r4_PolicyExprBad (p : Po) (cs : List CdM) (A : Option Addr) (c : Nat) (w : World) (hp : p.conds = cs.map CdM.cd) (hz : PoZ p) (hc : CdsAt w w.heap.size A cs) (hl : cs.length ≤ 9223372036854775807) (hk : ¬ polErr p = 0) :
    Calls Tryz.prog 22 #[.agg #[.string p.name, .bool p.forbid, .int .i64 p.who.op, .string p.who.ty, .string p.who.uid.ty, .string p.who.uid.id, .int .i64 p.act.op, .string p.act.ty, .string p.act.uid.ty, .string p.act.uid.id, .int .i64 p.what.op, .string p.what.ty, .string p.what.uid.ty, .string p.what.uid.id, .slice A cs.length c]] w fun e w' => NdsNum w e w' (exprP p).1 (exprP p).2 := by
  have HK := Lib.hid (fun (W : World) h => r4_PolicyFault p cs A c W hp hz h hl)
  have HC := Lib.hid hc
  have HE : Hid (exprP p = ([], polErr p)) := by show _ = _; unfold exprP; rw [if_pos hk]
  rw [HE.out]
  have tk : (polErr p != 0) = true := by simp [hk]
  clear hp hc hz hk HE
  generalize polErr p = k at HK tk ⊢
  go_enter Tryz.func22, Tryz.ntmps22
  go_wp2_with fail
  refine (HK.out _ (HC.out.later (by (repeat (first | assumption | exact Below.refl _ _ | apply Below.drew | apply below_drewN | (refine Below.alloc ?_ (by first | exact Nat.le_refl _ | omega | (simp; done) | (simp; omega)) _)))))).mono ?_
  rintro r w1 ⟨rfl, hb1⟩
  have hw1 : RowKit.Below w.heap.size w w1 := ((RowKit.Below.refl _ _).alloc (Nat.le_refl _) _).trans (hb1.mono (by simp))
  clear hb1 HK
  go_wp2_with fail
  go_ret2
  exact ⟨none, 0, rfl, Nat.le_refl _, by omega, NdSl.nil _ _ _, hw1⟩
theorem r4_PolicyExpr_any (p : Po) (cs : List CdM) (A : Option Addr) (c : Nat) (w : World) (hp : p.conds = cs.map CdM.cd) (hz : PoZ p) (hc : CdsAt w w.heap.size A cs) (hl : cs.length ≤ 9223372036854775807) :
    Calls Tryz.prog 22 #[.agg #[.string p.name, .bool p.forbid, .int .i64 p.who.op, .string p.who.ty, .string p.who.uid.ty, .string p.who.uid.id, .int .i64 p.act.op, .string p.act.ty, .string p.act.uid.ty, .string p.act.uid.id, .int .i64 p.what.op, .string p.what.ty, .string p.what.uid.ty, .string p.what.uid.id, .slice A cs.length c]] w fun e w' => NdsNum w e w' (exprP p).1 (exprP p).2 := by
  by_cases hk : polErr p = 0
  · exact r4_PolicyExpr p cs A c w hp hz hc hl hk
  · exact r4_PolicyExprBad p cs A c w hp hz hc hl hk
def poA : Po := ⟨⟨#[97]⟩, false, ⟨0, ⟨#[]⟩, ⟨⟨#[]⟩, ⟨#[]⟩⟩⟩, ⟨0, ⟨#[]⟩, ⟨⟨#[]⟩, ⟨#[]⟩⟩⟩, ⟨0, ⟨#[]⟩, ⟨⟨#[]⟩, ⟨#[]⟩⟩⟩, []⟩
theorem exprA : exprP poA = ([opN 11, opN 11, ⟨1, 1, eB, eB⟩, ⟨1, 1, eB, eB⟩, ⟨1, 1, eB, eB⟩], 0) := by
  have hn : nameErr poA.name.toList = 0 := by show nameErr (⟨#[97]⟩ : ByteArray).toList = 0; rw [ByteArray.toList_eq]; decide
  have hs : ∀ b, scOk ⟨0, ⟨#[]⟩, ⟨⟨#[]⟩, ⟨#[]⟩⟩⟩ b = true := fun b => by simp [scOk, udNone, emp, ByteArray.toList_eq]
  have h1 : polErr poA = 0 := by
    unfold polErr
    rw [if_neg (by simp [hn]), if_neg (by show ¬ (scOk _ true = false ∨ scOk _ false = false ∨ scOk _ true = false); simp [poA, hs]), if_neg (by simp [poA])]
    rfl
  have he : exprE poA = [opN 11, opN 11, ⟨1, 1, eB, eB⟩, ⟨1, 1, eB, eB⟩, ⟨1, 1, eB, eB⟩] := rfl
  unfold exprP
  rw [if_neg (by simp [h1]), he, if_neg (by simp)]
theorem pol_expr_a (W : World) : Calls Tryz.prog 20 #[.agg #[.string ⟨#[97]⟩, .bool false, .int .i64 0, .string ⟨#[]⟩, .string ⟨#[]⟩, .string ⟨#[]⟩, .int .i64 0, .string ⟨#[]⟩, .string ⟨#[]⟩, .string ⟨#[]⟩, .int .i64 0, .string ⟨#[]⟩, .string ⟨#[]⟩, .string ⟨#[]⟩, .slice none 0 0]] W fun e w' =>
    (∃ A c, e = .returned (.tuple #[.slice A 5 c, .nilIface])) ∧ RowKit.Below W.heap.size W w' := by
  have h := pol_Expr_any poA [] none 0 W rfl ⟨by decide, ⟨by decide, by decide, by decide⟩, ⟨by decide, by decide, by decide⟩, ⟨by decide, by decide, by decide⟩⟩ ⟨SlG.nil _ _ _, by simp⟩ (by simp)
  refine Calls.mono h ?_
  rintro e w' ⟨A, c, he, _, _, hs, hb⟩
  rw [exprA] at he
  exact ⟨⟨A, c, he⟩, hb⟩
def PoS (w w1 : World) (p : Po) (A : Option Addr) (cs : List CdM) (c : Nat) (W : World) : Prop :=
  W.cell? ⟨w.heap.size, 0, none⟩ = some (.string p.name) ∧ W.cell? ⟨w.heap.size, 1, none⟩ = some (.bool p.forbid) ∧ W.cell? ⟨w.heap.size, 2, none⟩ = some (.int .i64 p.who.op) ∧ W.cell? ⟨w.heap.size, 3, none⟩ = some (.string p.who.ty) ∧ W.cell? ⟨w.heap.size, 4, none⟩ = some (.string p.who.uid.ty) ∧ W.cell? ⟨w.heap.size, 5, none⟩ = some (.string p.who.uid.id) ∧ W.cell? ⟨w.heap.size, 6, none⟩ = some (.int .i64 p.act.op) ∧ W.cell? ⟨w.heap.size, 7, none⟩ = some (.string p.act.ty) ∧ W.cell? ⟨w.heap.size, 8, none⟩ = some (.string p.act.uid.ty) ∧ W.cell? ⟨w.heap.size, 9, none⟩ = some (.string p.act.uid.id) ∧ W.cell? ⟨w.heap.size, 10, none⟩ = some (.int .i64 p.what.op) ∧ W.cell? ⟨w.heap.size, 11, none⟩ = some (.string p.what.ty) ∧ W.cell? ⟨w.heap.size, 12, none⟩ = some (.string p.what.uid.ty) ∧ W.cell? ⟨w.heap.size, 13, none⟩ = some (.string p.what.uid.id) ∧ W.cell? ⟨w.heap.size, 14, none⟩ = some (.slice A cs.length c) ∧ RowKit.Below w1.heap.size w1 W
theorem PoS.keep {w w1 : World} {p : Po} {A : Option Addr} {cs : List CdM} {c : Nat} {W W' : World} (h : PoS w w1 p A cs c W) (hb : RowKit.Below W.heap.size W W') (hl : w.heap.size < w1.heap.size) : PoS w w1 p A cs c W' := by
  obtain ⟨h0, h1, h2, h3, h4, h5, h6, h7, h8, h9, h10, h11, h12, h13, h14, hw⟩ := h
  have hz := hw.size
  have := fun i => hb.cell (p := ⟨w.heap.size, i, none⟩) (show w.heap.size < W.heap.size by omega)
  exact ⟨(this _).trans h0, (this _).trans h1, (this _).trans h2, (this _).trans h3, (this _).trans h4, (this _).trans h5, (this _).trans h6, (this _).trans h7, (this _).trans h8, (this _).trans h9, (this _).trans h10, (this _).trans h11, (this _).trans h12, (this _).trans h13, (this _).trans h14, hw.trans (hb.mono hz)⟩
theorem PoS.of {w w1 : World} {p : Po} {A : Option Addr} {cs : List CdM} {c : Nat} (h : Blk w1 w.heap.size 45 #[.string p.name, .bool p.forbid, .int .i64 p.who.op, .string p.who.ty, .string p.who.uid.ty, .string p.who.uid.id, .int .i64 p.act.op, .string p.act.ty, .string p.act.uid.ty, .string p.act.uid.id, .int .i64 p.what.op, .string p.what.ty, .string p.what.uid.ty, .string p.what.uid.id, .slice A cs.length c]) : PoS w w1 p A cs c w1.drew :=
  ⟨h.cell 0, h.cell 1, h.cell 2, h.cell 3, h.cell 4, h.cell 5, h.cell 6, h.cell 7, h.cell 8, h.cell 9, h.cell 10, h.cell 11, h.cell 12, h.cell 13, h.cell 14, (RowKit.Below.refl _ _).drew⟩
set_option maxRecDepth 100000 in
set_option maxHeartbeats 12800000 in
theorem law_exprs (p : Po) (cs : List CdM) (A : Option Addr) (c : Nat) (w : World) (hg : ErrCell w) (hp : p.conds = cs.map CdM.cd) (hz : PoZ p) (hc : CdsAt w w.heap.size A cs) (hl : cs.length ≤ c) (hcm : c ≤ 9223372036854775807) :
    Calls Tryz.prog 6 #[.agg #[.string p.name, .bool p.forbid, .int .i64 p.who.op, .string p.who.ty, .string p.who.uid.ty, .string p.who.uid.id, .int .i64 p.act.op, .string p.act.ty, .string p.act.uid.ty, .string p.act.uid.id, .int .i64 p.what.op, .string p.what.ty, .string p.what.uid.ty, .string p.what.uid.id, .slice A cs.length c]] w fun r w' => r = .returned (.bool true) ∧ RowKit.Below w.heap.size w w' := by
  have HG := Lib.hid (fun (W : World) (h : RowKit.Below w.heap.size w W) => hg.below h hg.lt)
  have HF := Lib.hid (fun W (h : RowKit.Below w.heap.size w W) => r4_PolicyFault p cs A c W hp hz (hc.later h) (by omega))
  have HK := Lib.hid (fun W (h : RowKit.Below w.heap.size w W) => pol_Check p cs A c W hp hz (hc.later h) (by omega))
  have HE := Lib.hid (fun W (h : RowKit.Below w.heap.size w W) => pol_Expr_any p cs A c W hp hz (hc.later h) (by omega))
  have HV := Lib.hid (fun W (h : RowKit.Below w.heap.size w W) => r4_PolicyExpr_any p cs A c W hp hz (hc.later h) (by omega))
  clear hp hz hc hg
  generalize polErr p = k at HK HF
  generalize (exprP p).1 = L at HE HV
  generalize (exprP p).2 = k2 at HE HV
  go_enter Tryz.func6, Tryz.ntmps6
  go_wp2_with fail
  refine (pol_expr_a _).mono ?_
  rintro r w1 ⟨⟨A1, c1, rfl⟩, hb1⟩
  have B1 := (Blk.new w 45 _).below hb1 (by simp)
  have hw1 : RowKit.Below w.heap.size w w1 := ((RowKit.Below.refl _ _).alloc (Nat.le_refl _) _).trans (hb1.mono (by simp))
  have l1 := B1.lt
  have HS0 := Lib.hid (PoS.of B1)
  have HB1 := Lib.hid B1
  clear hb1 B1
  go_wp2_with fail
  go_region_held3 (fun W => (W.cell? ⟨w.heap.size, 0, none⟩ = some (.string p.name) ∧ W.cell? ⟨w.heap.size, 1, none⟩ = some (.bool p.forbid) ∧ W.cell? ⟨w.heap.size, 2, none⟩ = some (.int .i64 p.who.op) ∧ W.cell? ⟨w.heap.size, 3, none⟩ = some (.string p.who.ty) ∧ W.cell? ⟨w.heap.size, 4, none⟩ = some (.string p.who.uid.ty) ∧ W.cell? ⟨w.heap.size, 5, none⟩ = some (.string p.who.uid.id) ∧ W.cell? ⟨w.heap.size, 6, none⟩ = some (.int .i64 p.act.op) ∧ W.cell? ⟨w.heap.size, 7, none⟩ = some (.string p.act.ty) ∧ W.cell? ⟨w.heap.size, 8, none⟩ = some (.string p.act.uid.ty) ∧ W.cell? ⟨w.heap.size, 9, none⟩ = some (.string p.act.uid.id) ∧ W.cell? ⟨w.heap.size, 10, none⟩ = some (.int .i64 p.what.op) ∧ W.cell? ⟨w.heap.size, 11, none⟩ = some (.string p.what.ty) ∧ W.cell? ⟨w.heap.size, 12, none⟩ = some (.string p.what.uid.ty) ∧ W.cell? ⟨w.heap.size, 13, none⟩ = some (.string p.what.uid.id) ∧ W.cell? ⟨w.heap.size, 14, none⟩ = some (.slice A cs.length c) ∧ RowKit.Below w1.heap.size w1 W)) (first | exact HS0.out | exact PoS.keep (by assumption) hb l1)
    (first
      | (go_at_call 21; ((with_reducible refine (HK.out _ hw1.drew).mono ?_)); rintro r W ⟨rfl, hb⟩; have k0 := hw1.drew.trans (hb.mono hw1.size))
      | (go_at_call 15; ((with_reducible refine (HF.out _ k0).mono ?_)); rintro r W ⟨rfl, hb⟩; have k1 := k0.trans (hb.mono k0.size))
      | (go_at_call 9; ((with_reducible refine (same_Error k _ (HG.out _ k1)).mono ?_)); rintro r W ⟨rfl, hb⟩; have k2 := k1.trans (hb.mono k1.size)))
  have hS : PoS w w1 p A cs c W := by assumption
  obtain ⟨d0, d1, d2, d3, d4, d5, d6, d7, d8, d9, d10, d11, d12, d13, d14, hwW⟩ := hS
  have lW : w.heap.size < W.heap.size := by have := hwW.size; omega
  have BW := HB1.out.below hwW l1
  have HBW := Lib.hid BW
  clear k0 k1 HS0 HB1 BW
  go_wp2_with fail
  refine (HV.out _ k2).mono ?_
  rintro r w3 ⟨A3, c3, rfl, hc3, hm3, hs3, hb3⟩
  have k3 := k2.trans (hb3.mono k2.size)
  have B3 := HBW.out.below hb3 lW
  have l3 := B3.lt
  have c0 := B3.cell
  have HS3 := Lib.hid hs3
  clear hs3 hc3 hb3 B3 d0 d1 d2 d3 d4 d5 d6 d7 d8 d9 d10 d11 d12 d13 d14
  go_wp2_with fail
  refine (HE.out _ k3).mono ?_
  rintro r w4 ⟨A4, c4, rfl, hc4, hm4, hs4, hb4⟩
  have k4 := k3.trans (hb4.mono k3.size)
  have HS4 := Lib.hid hs4
  have HS3b := Lib.hid ((HS3.out.below hb4).more hb4.size)
  have hln : L.length ≤ 9223372036854775807 := by omega
  clear hs4 hc4 hb4 c0
  go_wp2_with fail
  refine (same_Error _ _ (HG.out _ k4)).mono ?_
  rintro r w5 ⟨rfl, hb5⟩
  have k5 := k4.trans (hb5.mono k4.size)
  have HS4b := Lib.hid ((HS4.out.below hb5).more hb5.size)
  have HS3c := Lib.hid ((HS3b.out.below hb5).more hb5.size)
  clear hb5
  go_wp2_with fail
  refine (same_Nodes L A4 A3 c4 c3 w5 HS4b.out HS3c.out hln).mono ?_
  rintro r w6 ⟨rfl, hb6⟩
  have k6 := k5.trans (hb6.mono k5.size)
  go_wp2_with fail
  go_ret
  exact ⟨rfl, k6⟩
end Go.Proofs.YtbommoefpekalaaGreatDoor
