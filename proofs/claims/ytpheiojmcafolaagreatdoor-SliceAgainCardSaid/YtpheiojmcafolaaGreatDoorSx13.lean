/-
  THE WALKS: pol.Expr.
  THE WALKS: pol.Expr at any policy.
  PLAIN WORDS: policies in memory and what auth.Ask answers.
  A MAP of names that were met.
-/
import Derived.Test.YtpheiojmcafolaaGreatDoorSx12
import Derived.Deep.RegionHeld3
import Derived.Test.YtpheiojmcafolaaGreatDoorSx11
import Derived.Test.YtpheiojmcafolaaGreatDoorSx08
import Derived.Test.YtpheiojmcafolaaGreatDoorSx09
namespace Go.Proofs.YtpheiojmcafolaaGreatDoor
open Go.RowKit Go.Sort
set_option maxRecDepth 100000 in
set_option maxHeartbeats 1600000 in
theorem expr_and (a b : NsM) (w : World) (ha : NsGood w w.heap.size a) (hb : NsGood w w.heap.size b) (na : a.e ≠ []) (nb : b.e ≠ []) (hl : a.e.length + b.e.length ≤ 100000) :
   Calls Tryz.prog 54 #[.slice a.A a.e.length a.c, .slice b.A b.e.length b.c] w fun r w' => NdsRet w r w' (andE a.e b.e) := by
 have H := Lib.hid (op_call (W := w) (T := 22) (opN 11) [a, b] #[.slice a.A a.e.length a.c, .slice b.A b.e.length b.c] 2 2 (andE a.e b.e) rfl rfl (by simp [catN, andE]) (by simpa using ⟨ha, hb⟩) (by simpa using ⟨na, nb⟩) (by simp [catN]; omega) (by simp))
 clear ha hb na nb hl
 generalize andE a.e b.e = L at H ⊢
 go_enter Tryz.func54, Tryz.ntmps54
 go_wp2_with fail
 refine H.out.mono ?_
 rintro r w2 ⟨A2, c2, rfl, hc2, hm2, hs2, hb2⟩
 have HS := Lib.hid hs2
 have HC := Lib.hid hc2
 clear hs2 hc2
 go_wp2_with fail
 go_ret
 exact ⟨A2, c2, rfl, HC.out, hm2, HS.out, hb2⟩
theorem NsGood.of {W : World} {A : Option Addr} {c : Nat} {L : List Nd} (h1 : NdSl W W.heap.size A L) (h2 : L.length ≤ c) (h3 : c ≤ 9223372036854775807) : NsGood W W.heap.size ⟨A, c, L⟩ := ⟨h1, h2, h3⟩
def ExS (w w1 : World) (p : Po) (W : World) : Prop :=
 W.cell? ⟨w.heap.size, 2, none⟩ = some (.int .i64 p.who.op) ∧ W.cell? ⟨w.heap.size, 3, none⟩ = some (.string p.who.ty) ∧ W.cell? ⟨w.heap.size, 4, none⟩ = some (.string p.who.uid.ty) ∧ W.cell? ⟨w.heap.size, 5, none⟩ = some (.string p.who.uid.id) ∧ W.cell? ⟨w.heap.size, 6, none⟩ = some (.int .i64 p.act.op) ∧ W.cell? ⟨w.heap.size, 7, none⟩ = some (.string p.act.ty) ∧ W.cell? ⟨w.heap.size, 8, none⟩ = some (.string p.act.uid.ty) ∧ W.cell? ⟨w.heap.size, 9, none⟩ = some (.string p.act.uid.id) ∧ W.cell? ⟨w.heap.size, 10, none⟩ = some (.int .i64 p.what.op) ∧ W.cell? ⟨w.heap.size, 11, none⟩ = some (.string p.what.ty) ∧ W.cell? ⟨w.heap.size, 12, none⟩ = some (.string p.what.uid.ty) ∧ W.cell? ⟨w.heap.size, 13, none⟩ = some (.string p.what.uid.id) ∧ RowKit.Below w1.heap.size w1 W
theorem ExS.keep {w w1 : World} {p : Po} {W W' : World} (h : ExS w w1 p W) (hb : RowKit.Below W.heap.size W W') (hl : w.heap.size < w1.heap.size) : ExS w w1 p W' := by
 obtain ⟨h1, h2, h3, h4, g1, g2, g3, g4, k1, k2, k3, k4, hw⟩ := h
 have hz := hw.size
 have := fun i => hb.cell (p := ⟨w.heap.size, i, none⟩) (show w.heap.size < W.heap.size by omega)
 exact ⟨(this _).trans h1, (this _).trans h2, (this _).trans h3, (this _).trans h4, (this _).trans g1, (this _).trans g2, (this _).trans g3, (this _).trans g4, (this _).trans k1, (this _).trans k2, (this _).trans k3, (this _).trans k4, hw.trans (hb.mono hz)⟩
theorem scopeE_ne (s : Sc) (v : ByteArray) : scopeE s v ≠ [] := by
 unfold scopeE
 repeat' split
 all_goals simp
theorem scopeE_le (s : Sc) (v : ByteArray) : (scopeE s v).length ≤ 6 := by
 unfold scopeE
 repeat' split
 all_goals simp
theorem cds_tree {cs : List CdM} (h : cdsErr (cs.map CdM.cd) = 0) : ∀ x ∈ cs, treeErr x.e = 0 := by
 induction cs with
 | nil => simp
 | cons y r ih =>
   have e : cdsErr ((y :: r).map CdM.cd) = if cdErr y.e ≠ 0 then cdErr y.e else cdsErr (r.map CdM.cd) := rfl
   rw [e] at h
   split at h
   · rename_i hn; exact absurd h hn
   · rename_i hn
     intro x hx
     rcases List.mem_cons.1 hx with rfl | hx
     · have hc : cdErr x.e = 0 := by simpa using hn
       unfold cdErr at hc
       split at hc
       · rename_i ht; exact absurd hc ht
       · rename_i ht; simpa using ht
     · exact ih h x hx
theorem pol_conds {p : Po} {cs : List CdM} (h : polErr p = 0) (hp : p.conds = cs.map CdM.cd) : cs.length ≤ 4 ∧ ∀ x ∈ cs, treeErr x.e = 0 := by
 unfold polErr at h
 split at h
 · rename_i hn; exact absurd h hn
 · split at h
   · cases h
   · split at h
     · cases h
     · rename_i h4
       rw [hp, List.length_map] at h4
       rw [hp] at h
       exact ⟨by omega, cds_tree h⟩
def exprK (e0 : List Nd) (cs : List CdM) : List Nd := cs.foldl (fun e c => andE e (condE c.cd)) e0
theorem exprK_step {e0 : List Nd} {cs : List CdM} {k : Nat} {x : CdM} (h : cs[k]? = some x) : exprK e0 (cs.take (k + 1)) = andE (exprK e0 (cs.take k)) (condE x.cd) := by
 unfold exprK
 rw [List.take_add_one, h, List.foldl_append]; rfl
theorem condE_le {x : CdM} (h : x.e.length ≤ 200) : (condE x.cd).length ≤ 201 := by
 unfold condE
 split
 · show (x.e.length + 1) ≤ 201; omega
 · show x.e.length ≤ 201; omega
theorem exprK_le {e0 : List Nd} {cs : List CdM} (h0 : e0.length ≤ 20) (h : ∀ x ∈ cs, x.e.length ≤ 200) : (exprK e0 cs).length ≤ 20 + 202 * cs.length := by
 suffices H : ∀ (cs : List CdM) (e0 : List Nd), (∀ x ∈ cs, x.e.length ≤ 200) → (exprK e0 cs).length ≤ e0.length + 202 * cs.length by
   have := H cs e0 h; omega
 intro cs
 induction cs with
 | nil => intro e0 _; simp [exprK]
 | cons y r ih =>
   intro e0 hh
   have h1 := ih (andE e0 (condE y.cd)) fun x hx => hh x (List.mem_cons_of_mem _ hx)
   have h2 := condE_le (hh y (List.mem_cons_self ..))
   simp only [List.length_cons, andE_len] at h1 ⊢
   show (exprK (andE e0 (condE y.cd)) r).length ≤ _
   omega
theorem exprE0_le (p : Po) : (exprE0 p).length ≤ 20 := by
 have k0 := scopeE_le p.who prB
 have k1 := scopeE_le p.act acB
 have k2 := scopeE_le p.what reB
 simp only [exprE0, andE_len]; omega
theorem exprK_ne {e0 : List Nd} {cs : List CdM} (h : e0 ≠ []) : exprK e0 cs ≠ [] := by
 induction cs generalizing e0 with
 | nil => exact h
 | cons y r ih => exact ih (andE_ne _ _)
set_option maxRecDepth 100000 in
set_option maxHeartbeats 12800000 in
theorem pol_Expr (p : Po) (cs : List CdM) (A : Option Addr) (c : Nat) (w : World) (hp : p.conds = cs.map CdM.cd) (hz : PoZ p) (hc : CdsAt w w.heap.size A cs) (hl : cs.length ≤ 9223372036854775807) (hk : polErr p = 0) :
   Calls Tryz.prog 21 #[.agg #[.string p.name, .bool p.forbid, .int .i64 p.who.op, .string p.who.ty, .string p.who.uid.ty, .string p.who.uid.id, .int .i64 p.act.op, .string p.act.ty, .string p.act.uid.ty, .string p.act.uid.id, .int .i64 p.what.op, .string p.what.ty, .string p.what.uid.ty, .string p.what.uid.id, .slice A cs.length c]] w fun e w' => NdsBack w e w' (exprP p).1 (exprP p).2 := by
 have HK := Lib.hid (fun (W : World) h => pol_Check p cs A c W hp hz h hl)
 rw [hk] at HK
 have HP := Lib.hid hp
 have HC := Lib.hid hc
 have HKE := Lib.hid hk
 have H0 := Lib.hid (fun W => pol_Scoped p.who prB W (by decide))
 have H1 := Lib.hid (fun W => pol_Scoped p.act acB W (by decide))
 have H2 := Lib.hid (fun W => pol_Scoped p.what reB W (by decide))
 clear hp hc hz hk
 go_enter Tryz.func21, Tryz.ntmps21
 go_wp2_with fail
 refine (HK.out _ (HC.out.later (by (repeat (first | assumption | exact Below.refl _ _ | apply Below.drew | apply below_drewN | (refine Below.alloc ?_ (by first | exact Nat.le_refl _ | omega | (simp; done) | (simp; omega)) _)))))).mono ?_
 rintro r w1 ⟨rfl, hb1⟩
 have B1 := (Blk.new w 47 _).below hb1 (by simp)
 have hw1 : Below w.heap.size w w1 := ((Below.refl _ _).alloc (Nat.le_refl _) _).trans (hb1.mono (by simp))
 clear hb1 HK
 have c1 := B1.cell
 have l1 := B1.lt
 go_wp2_with fail
 have HC1 := Lib.hid (HC.out.later hw1)
 have HS0 : Hid (ExS w w1 p w1.drew) := Lib.hid ⟨c1 2, c1 3, c1 4, c1 5, c1 6, c1 7, c1 8, c1 9, c1 10, c1 11, c1 12, c1 13, (Below.refl _ _).drew⟩
 go_region_held3 (fun W => (W.cell? ⟨w.heap.size, 2, none⟩ = some (.int .i64 p.who.op) ∧ W.cell? ⟨w.heap.size, 3, none⟩ = some (.string p.who.ty) ∧ W.cell? ⟨w.heap.size, 4, none⟩ = some (.string p.who.uid.ty) ∧ W.cell? ⟨w.heap.size, 5, none⟩ = some (.string p.who.uid.id) ∧ W.cell? ⟨w.heap.size, 6, none⟩ = some (.int .i64 p.act.op) ∧ W.cell? ⟨w.heap.size, 7, none⟩ = some (.string p.act.ty) ∧ W.cell? ⟨w.heap.size, 8, none⟩ = some (.string p.act.uid.ty) ∧ W.cell? ⟨w.heap.size, 9, none⟩ = some (.string p.act.uid.id) ∧ W.cell? ⟨w.heap.size, 10, none⟩ = some (.int .i64 p.what.op) ∧ W.cell? ⟨w.heap.size, 11, none⟩ = some (.string p.what.ty) ∧ W.cell? ⟨w.heap.size, 12, none⟩ = some (.string p.what.uid.ty) ∧ W.cell? ⟨w.heap.size, 13, none⟩ = some (.string p.what.uid.id) ∧ RowKit.Below w1.heap.size w1 W)) (first | exact HS0.out | exact ExS.keep (by assumption) hb l1)
   (first
     | (go_at_call 56; ((with_reducible refine (H0.out _).mono ?_)); rintro r W ⟨A0, c0, rfl, hc0, hm0, hs0, hb⟩; have g0 := NsGood.of hs0 hc0 hm0; clear hc0 hm0 hs0)
     | (go_at_call 56; ((with_reducible refine (H1.out _).mono ?_)); rintro r W ⟨A1, c1', rfl, hc0, hm0, hs0, hb⟩; have g1 := NsGood.of hs0 hc0 hm0; replace g0 := g0.later hb; clear hc0 hm0 hs0)
     | (go_at_call 56; ((with_reducible refine (H2.out _).mono ?_)); rintro r W ⟨A3, c3, rfl, hc0, hm0, hs0, hb⟩; have g3 := NsGood.of hs0 hc0 hm0; replace g2 := g2.later hb; clear hc0 hm0 hs0)
     | (go_at_call 54; ((with_reducible refine (expr_and ⟨A0, c0, _⟩ ⟨A1, c1', _⟩ _ g0 g1 (scopeE_ne _ _) (scopeE_ne _ _) ?_).mono ?_)); (have k0 := scopeE_le p.who prB; have k1 := scopeE_le p.act acB; simp only; omega); rintro r W ⟨A2, c2, rfl, hc0, hm0, hs0, hb⟩; have g2 := NsGood.of hs0 hc0 hm0; clear hc0 hm0 hs0)
     | (go_at_call 54; ((with_reducible refine (expr_and ⟨A2, c2, _⟩ ⟨A3, c3, _⟩ _ g2 g3 (andE_ne _ _) (scopeE_ne _ _) ?_).mono ?_)); (have k0 := scopeE_le p.who prB; have k1 := scopeE_le p.act acB; have k2 := scopeE_le p.what reB; simp only [andE_len]; omega); rintro r W ⟨A4, c4, rfl, hc0, hm0, hs0, hb⟩; have g4 := NsGood.of hs0 hc0 hm0; clear hc0 hm0 hs0))
 have hS : ExS w w1 p W := by assumption
 obtain ⟨-, -, -, -, -, -, -, -, -, -, -, -, hwW⟩ := hS
 have c14 : W.cell? ⟨w.heap.size, 14, none⟩ = some (.slice A cs.length c) := (hwW.cell (p := ⟨w.heap.size, 14, none⟩) l1).trans (c1 14)
 have lW : w.heap.size < W.heap.size := by have := hwW.size; omega
 have HG := Lib.hid (show NsGood W W.heap.size ⟨A4, c4, exprE0 p⟩ from g4)
 have HCW := Lib.hid (HC1.out.later hwW)
 have hbW := hw1.trans (hwW.mono hw1.size)
 have HSM := Lib.hid (pol_conds HKE.out HP.out)
 have hl4 := HSM.out.1
 have HLE := Lib.hid (exprE0_le p)
 have HNE : Hid (exprE0 p ≠ []) := Lib.hid (andE_ne _ _)
 have HEX : Hid (exprP p = if 200 < (exprK (exprE0 p) cs).length then ([], 4) else (exprK (exprE0 p) cs, 0)) := by
   show _ = _
   unfold exprP
   rw [if_neg (by rw [HKE.out]; simp)]
   have : exprE p = exprK (exprE0 p) cs := by unfold exprE exprK; rw [HP.out, List.foldl_map]
   rw [this]
 generalize he0 : exprE0 p = e0 at HG HLE HNE HEX g4
 have HE0 := Lib.hid he0
 clear he0
 clear g4 g3 g2 g1 g0 c1 HS0 HC1 HP HKE HC H0 H1 H2
 go_wp2_with fail
 go_loopw [6, 31] (fun ev ii wr => ∃ (k : Nat) (Ae : Option Addr) (ce : Nat), ii = .int .i64 k ∧ ev = .slice Ae (exprK e0 (cs.take k)).length ce ∧ k ≤ cs.length ∧ Hid (NsGood wr wr.heap.size ⟨Ae, ce, exprK e0 (cs.take k)⟩) ∧ RowKit.Below W.heap.size W wr) (fun _ ii _ => cs.length - (intOf ii).toNat)
 case atStart => exact ⟨0, A4, c4, rfl, by rw [← HE0.out]; rfl, by omega, HG, RowKit.Below.refl _ _⟩
 case round =>
   obtain ⟨k, Ae, ce, rfl, rfl, hk, HGk, hbr⟩ := hrel
   have hzr := hbr.size
   by_cases hlt : k < cs.length
   · obtain ⟨⟨u, Ax, cx, e⟩, hx⟩ : ∃ x, cs[k]? = some x := ⟨_, List.getElem?_eq_getElem hlt⟩
     have hg := (HCW.out.later hbr).good _ (List.mem_of_getElem? hx)
     have het : e.length ≤ 200 ∧ 0 < e.length := tree_len (HSM.out.2 _ (List.mem_of_getElem? hx))
     obtain ⟨b, o, rfl, hb, ⟨d0, d1⟩⟩ := cdSl_at (HCW.out.later hbr).sl hx
     have HST := Lib.hid (exprK_step (e0 := e0) hx)
     have hne1 : exprK e0 (cs.take k) ≠ [] := exprK_ne HNE.out
     have hle1 : (exprK e0 (cs.take k)).length ≤ 20 + 202 * 4 := Nat.le_trans (exprK_le HLE.out fun x hx => (tree_len (HSM.out.2 x (List.mem_of_mem_take hx))).1) (by rw [List.length_take]; omega)
     have hx1 : NsGood wr wr.heap.size ⟨Ax, cx, e⟩ := ⟨hg.sl, hg.le, hg.max⟩
     have hen : e ≠ [] := by intro h; subst h; exact absurd het.2 (by simp)
     have HL2 : Hid ((condE ⟨true, e⟩).length = e.length + 1) := rfl
     generalize exprK e0 (cs.take k) = L at HGk hne1 hle1 HST
     have HA := Lib.hid (fun W' (hW : RowKit.Below wr.heap.size wr W') => expr_and ⟨Ae, ce, L⟩ ⟨Ax, cx, e⟩ W' (HGk.out.later hW) (hx1.later hW) hne1 hen (by have := het.1; show L.length + e.length ≤ 100000; omega))
     have HO := Lib.hid (fun W' (hW : RowKit.Below wr.heap.size wr W') => op_call (W := W') (T := 22) (opN 9) [⟨Ax, cx, e⟩] #[.slice Ax e.length cx] 1 1 (condE ⟨true, e⟩) rfl rfl (by simp [condE, catN]) (by simpa using hx1.later hW) (by simpa using hen) (by simp [catN]; omega) (by simp))
     have HA2 := Lib.hid (fun W' A2 c2 (hW : RowKit.Below wr.heap.size wr W') g2 => expr_and ⟨Ae, ce, L⟩ ⟨A2, c2, condE ⟨true, e⟩⟩ W' (HGk.out.later hW) g2 hne1 (List.cons_ne_nil _ _) (by have := het.1; show L.length + (condE ⟨true, e⟩).length ≤ 100000; rw [HL2.out]; omega))
     clear hx hg hx1 hne1 hen HGk HL2
     have hbw : b < wr.heap.size := hb
     cases u with
     | false =>
       go_wp2_with fail
       refine (HA.out _ (by (repeat (first | assumption | exact Below.refl _ _ | apply Below.drew | apply below_drewN | (refine Below.alloc ?_ (by first | exact Nat.le_refl _ | omega | (simp; done) | (simp; omega)) _))))).mono ?_
       rintro r w5 ⟨A5, c5, rfl, hc5, hm5, hs5, hb5⟩
       have hb5' : RowKit.Below W.heap.size W w5 := (hbr.alloc hzr _).trans (hb5.mono (by simp; omega))
       have HN := Lib.hid (NsGood.of hs5 hc5 hm5)
       clear hs5 hc5 hb5
       go_wp2_with fail
       have hst := HST.out
       have hcd : condE ⟨false, e⟩ = e := rfl
       simp only [CdM.cd, hcd] at hst
       exact ⟨⟨k + 1, A5, c5, by go_num, by rw [hst], by omega, by rw [hst]; exact HN, hb5'⟩, by simp [intOf]; omega⟩
     | true =>
       go_wp2_with fail
       generalize hw2 : wr.alloc _ = w2
       have hbw2 : RowKit.Below wr.heap.size wr w2 := by rw [← hw2]; (repeat (first | assumption | exact Below.refl _ _ | apply Below.drew | apply below_drewN | (refine Below.alloc ?_ (by first | exact Nat.le_refl _ | omega | (simp; done) | (simp; omega)) _)))
       have hz2 : wr.heap.size + 1 = w2.heap.size := by rw [← hw2]; simp
       clear hw2
       rw [hz2]
       refine (HO.out _ hbw2).mono ?_
       rintro r w4 ⟨A5, c5, rfl, hc5, hm5, hs5, hb5⟩
       have hbw4 := hbw2.trans (hb5.mono hbw2.size)
       have HG5 := Lib.hid (NsGood.of hs5 hc5 hm5)
       clear hs5 hc5 hb5
       go_wp2_with fail
       refine (HA2.out _ A5 c5 hbw4 HG5.out).mono ?_
       rintro r w5 ⟨A6, c6, rfl, hc6, hm6, hs6, hb6⟩
       have hb6' : RowKit.Below W.heap.size W w5 := hbr.trans ((hbw4.trans (hb6.mono hbw4.size)).mono hzr)
       have HN := Lib.hid (NsGood.of hs6 hc6 hm6)
       clear hs6 hc6 hb6 hbw4 hbw2
       go_wp2_with fail
       have hst := HST.out
       simp only [CdM.cd] at hst
       exact ⟨⟨k + 1, A6, c6, by go_num, by rw [hst], by omega, by rw [hst]; exact HN, hb6'⟩, by simp [intOf]; omega⟩
   · have HT : Hid (cs.take k = cs) := by show _ = _; rw [List.take_of_length_le (by omega)]
     rw [HT.out] at HGk ⊢
     generalize exprK e0 cs = L at HGk HEX ⊢
     by_cases h2 : 200 < L.length
     · have t2 : 200 < (L.length : Int) := by omega
       have HV : Hid (exprP p = ([], 4)) := by show _ = _; rw [HEX.out, if_pos h2]
       clear h2
       go_wp2_with fail
       go_ret2
       rw [HV.out]
       exact NdsBack.none (k := 4) (hbW.trans (hbr.mono hbW.size))
     · have t2 : ¬ 200 < (L.length : Int) := by omega
       have HV : Hid (exprP p = (L, 0)) := by show _ = _; rw [HEX.out, if_neg h2]
       clear h2
       go_wp2_with fail
       go_ret2
       rw [HV.out]
       exact ⟨Ae, ce, rfl, HGk.out.le, HGk.out.max, HGk.out.sl, hbW.trans (hbr.mono hbW.size)⟩
end Go.Proofs.YtpheiojmcafolaaGreatDoor
namespace Go.Proofs.YtpheiojmcafolaaGreatDoor
set_option maxRecDepth 100000
open Go.RowKit Go.Sort
set_option maxHeartbeats 3200000 in
theorem pol_ExprBad (p : Po) (cs : List CdM) (A : Option Addr) (c : Nat) (w : World) (hp : p.conds = cs.map CdM.cd) (hz : PoZ p) (hc : CdsAt w w.heap.size A cs) (hl : cs.length ≤ 9223372036854775807) (hk : ¬ polErr p = 0) :
   Calls Tryz.prog 21 #[.agg #[.string p.name, .bool p.forbid, .int .i64 p.who.op, .string p.who.ty, .string p.who.uid.ty, .string p.who.uid.id, .int .i64 p.act.op, .string p.act.ty, .string p.act.uid.ty, .string p.act.uid.id, .int .i64 p.what.op, .string p.what.ty, .string p.what.uid.ty, .string p.what.uid.id, .slice A cs.length c]] w fun e w' => NdsBack w e w' (exprP p).1 (exprP p).2 := by
 have HK := Lib.hid (fun (W : World) h => pol_Check p cs A c W hp hz h hl)
 have HC := Lib.hid hc
 have HE : Hid (exprP p = ([], polErr p)) := by show _ = _; unfold exprP; rw [if_pos hk]
 rw [HE.out]
 have tk : (polErr p != 0) = true := by simp [hk]
 clear hp hc hz hk HE
 generalize polErr p = k at HK tk ⊢
 go_enter Tryz.func21, Tryz.ntmps21
 go_wp2_with fail
 refine (HK.out _ (HC.out.later (by (repeat (first | assumption | exact Below.refl _ _ | apply Below.drew | apply below_drewN | (refine Below.alloc ?_ (by first | exact Nat.le_refl _ | omega | (simp; done) | (simp; omega)) _)))))).mono ?_
 rintro r w1 ⟨rfl, hb1⟩
 have hw1 : RowKit.Below w.heap.size w w1 := ((RowKit.Below.refl _ _).alloc (Nat.le_refl _) _).trans (hb1.mono (by simp))
 clear hb1 HK
 go_wp2_with fail
 go_ret2
 exact NdsBack.none hw1
theorem pol_Expr_any (p : Po) (cs : List CdM) (A : Option Addr) (c : Nat) (w : World) (hp : p.conds = cs.map CdM.cd) (hz : PoZ p) (hc : CdsAt w w.heap.size A cs) (hl : cs.length ≤ 9223372036854775807) :
   Calls Tryz.prog 21 #[.agg #[.string p.name, .bool p.forbid, .int .i64 p.who.op, .string p.who.ty, .string p.who.uid.ty, .string p.who.uid.id, .int .i64 p.act.op, .string p.act.ty, .string p.act.uid.ty, .string p.act.uid.id, .int .i64 p.what.op, .string p.what.ty, .string p.what.uid.ty, .string p.what.uid.id, .slice A cs.length c]] w fun e w' => NdsBack w e w' (exprP p).1 (exprP p).2 := by
 by_cases hk : polErr p = 0
 · exact pol_Expr p cs A c w hp hz hc hl hk
 · exact pol_ExprBad p cs A c w hp hz hc hl hk
end Go.Proofs.YtpheiojmcafolaaGreatDoor
namespace Go.Proofs.YtpheiojmcafolaaGreatDoor
open Go.RowKit
theorem exprP_tree {p : Po} (h : (exprP p).2 = 0) : polErr p = 0 ∧ (exprP p).1 = exprE p ∧ treeErr (exprP p).1 = 0 := by
 unfold exprP at h ⊢
 by_cases hk : polErr p = 0
 · rw [if_neg (by simp [hk])] at h ⊢
   by_cases hb : 200 < (exprE p).length
   · rw [if_pos hb] at h; simp at h
   · rw [if_neg hb]
     refine ⟨hk, rfl, (tree_iff _).2 ⟨by show (exprE p).length ≤ 200; omega, ?_⟩⟩
     obtain ⟨_, h1, h2, h3, _, h5⟩ := pol_ok.1 hk
     exact exprC_ex (and_ex (and_ex (scope_ex h1 nameOk_pr) (scope_ex h2 nameOk_ac)) (scope_ex h3 nameOk_re)) (cds_each h5)
 · rw [if_pos hk] at h; exact absurd h hk
theorem scopeE_ops (s : Sc) (v : ByteArray) : ∀ x ∈ scopeE s v, ¬ x.op = 2 := by
 intro x hx
 unfold scopeE at hx
 (repeat' split at hx) <;> simp only [List.mem_cons, List.not_mem_nil, or_false, opN, varN, entN] at hx <;> (rcases hx with rfl | rfl | rfl | rfl | rfl | rfl) <;> simp
theorem exprE_nums {p : Po} (h : ∀ c ∈ p.conds, NdI c.expr) : ∀ x ∈ exprE p, x.op = 2 → I64 x.n := by
 have key : ∀ (l : List Cd) (e : List Nd), (∀ c ∈ l, NdI c.expr) → (∀ x ∈ e, x.op = 2 → I64 x.n) → ∀ x ∈ l.foldl (fun e c => andE e (condE c)) e, x.op = 2 → I64 x.n := by
   intro l
   induction l with
   | nil => intro e _ he; exact he
   | cons c l ih =>
     intro e hl he
     refine ih _ (fun d hd => hl d (List.mem_cons_of_mem _ hd)) fun x hx h2 => ?_
     simp only [andE, List.mem_cons, List.mem_append] at hx
     rcases hx with rfl | hx | hx
     · exact absurd h2 (by simp [opN])
     · exact he x hx h2
     · unfold condE at hx
       split at hx
       · rcases List.mem_cons.1 hx with rfl | hx
         · exact absurd h2 (by simp [opN])
         · exact hl c (List.mem_cons_self ..) x hx
       · exact hl c (List.mem_cons_self ..) x hx
 refine key p.conds (exprE0 p) h fun x hx h2 => ?_
 unfold exprE0 at hx
 simp only [andE, List.mem_cons, List.mem_append] at hx
 rcases hx with rfl | (rfl | hx | hx) | hx
 · exact absurd h2 (by simp [opN])
 · exact absurd h2 (by simp [opN])
 · exact absurd h2 (scopeE_ops _ _ x hx)
 · exact absurd h2 (scopeE_ops _ _ x hx)
 · exact absurd h2 (scopeE_ops _ _ x hx)
theorem exprP_i64 {p : Po} (h : (exprP p).2 = 0) (hc : ∀ c ∈ p.conds, NdI c.expr) : NdI (exprP p).1 := by
 obtain ⟨_, h2, h3⟩ := exprP_tree h
 exact tree_i64 h3 (by rw [h2]; exact exprE_nums hc)
def nmQ (x : PoM) : List UInt8 := x.p.name.toList
def fbQ (x : PoM) : Bool := x.p.forbid
def pe1Q (x : PoM) : Int := polErr x.p
def pe2Q (x : PoM) : Int := if (exprP x.p).2 ≠ 0 then (exprP x.p).2 else if slotsP x.p = [] then 0 else 1
def aErr (ps : List PoM) : Int := authErr nmQ pe1Q pe2Q ps
def vtQ (es : List En) (q : Rq) (x : PoM) : Int := match valueR es q (exprP x.p).1 with
 | .ok v => if opH v = 1 then (if nH v = 1 then 1 else 0) else -1
 | .bad _ => -1
theorem authGo_drop {α : Type} {nm : α → List UInt8} {pe1 pe2 : α → Int} {ps : List α} {k : Nat} {x : α} (hx : ps[k]? = some x) (met : List (List UInt8)) :
   authGo nm pe1 pe2 (ps.drop k) met = if pe1 x ≠ 0 then pe1 x else if nm x ∈ met then 6 else if pe2 x ≠ 0 then pe2 x else authGo nm pe1 pe2 (ps.drop (k + 1)) (met ++ [nm x]) := by
 obtain ⟨h1, h2⟩ := List.getElem?_eq_some_iff.1 hx
 rw [List.drop_eq_getElem_cons h1, h2]
 rfl
theorem aErr_use {ps : List PoM} (h : aErr ps = 0) : ps.length ≤ 12 ∧ (∀ x ∈ ps, polErr x.p = 0 ∧ (exprP x.p).2 = 0 ∧ slotsP x.p = []) ∧ (ps.map nmQ).Nodup := by
 obtain ⟨h1, h2, h3⟩ := (auth_ok nmQ pe1Q pe2Q ps).1 h
 refine ⟨h1, fun x hx => ?_, h3⟩
 obtain ⟨g1, g2⟩ := h2 x hx
 refine ⟨g1, ?_⟩
 unfold pe2Q at g2
 by_cases e : (exprP x.p).2 = 0
 · rw [if_neg (by simp [e])] at g2
   refine ⟨e, ?_⟩
   by_cases s : slotsP x.p = []
   · exact s
   · rw [if_neg s] at g2; simp at g2
 · rw [if_pos e] at g2; exact absurd g2 e
structure Aq where
 es : List En
 hs : List Eh
 Ea : Option Addr
 ec : Nat
 q : Rq
 qa : Option Addr
 qc : Nat
def firstI (k1 k2 k3 : Int) : Int := if k1 ≠ 0 then k1 else if k2 ≠ 0 then k2 else k3
def askErr (x : Aq) (ps : List PoM) : Int := firstI (entErr x.es) (aErr ps) (rqErr x.q)
theorem firstI_zero {a b c : Int} (h : firstI a b c = 0) : a = 0 ∧ b = 0 ∧ c = 0 := by
 unfold firstI at h
 split at h
 · rename_i h1; exact absurd h h1
 · split at h
   · rename_i h1; exact absurd h h1
   · rename_i h1 h2; exact ⟨by simpa using h1, by simpa using h2, h⟩
end Go.Proofs.YtpheiojmcafolaaGreatDoor
namespace Go.Proofs.YtpheiojmcafolaaGreatDoor
set_option maxRecDepth 100000
open Go.RowKit Go.Sort Go.Maps
def NmOk (ns : List (List UInt8)) (D : DataW Unit) : Prop := ∀ l : List UInt8, Maps.has D (.string l) = decide (l ∈ ns)
theorem nmOk_nil : NmOk [] (.map [] : DataW Unit) := fun l => by simp [Maps.has]
theorem nmOk_put {ns : List (List UInt8)} {D : DataW Unit} (h : NmOk ns D) (hD : Maps.IsMap D) {s : ByteArray} (hs : s.size ≤ maxLen) (d : DataW Unit) : NmOk (ns ++ [s.toList]) (D.put (.string s.toList) d) := by
 intro l
 have hkey : WideAt.IsKeyLit (.string s.toList) := by rw [← lstr_key]; exact strk_law.key (strk_eq hs)
 by_cases e : l = s.toList
 · subst e
   rw [has_put_same hD hkey]; simp
 · have hne : (Lit.string l) ≠ .string s.toList := fun h => e (by injection h)
   rw [has_put_other hne, h l]; simp [e]
def NmAt (w : World) (mb : Nat) (ns : List (List UInt8)) : Prop := ∃ D, w.ownsMap Tryz.prog 9 (plainElem (H := Unit) Tryz.prog 3) mb ns.length D ∧ NmOk ns D
theorem NmAt.kept {w w' : World} {mb : Nat} {ns : List (List UInt8)} (h : NmAt w mb ns) {row : Option Nat} (hg : w.grownBy w' row) (hne : some mb ≠ row) : NmAt w' mb ns := by
 obtain ⟨D, h1, h2⟩ := h
 exact ⟨D, h1.kept hg hne, h2⟩
theorem NmAt.lt {w : World} {mb : Nat} {ns : List (List UInt8)} (h : NmAt w mb ns) : mb < w.heap.size := by
 obtain ⟨D, h1, _⟩ := h
 exact h1.lt
theorem NmAt.below {w w' : World} {mb : Nat} {ns : List (List UInt8)} (h : NmAt w mb ns) (hb : RowKit.Below w.heap.size w w') : NmAt w' mb ns :=
 h.kept (row := none) ⟨hb.os, hb.tape, hb.output, hb.size, fun k hk _ => hb.block k hk⟩ (by simp)
theorem nm_made (w : World) : NmAt (w.alloc (.map #[] 0)) w.heap.size [] := ⟨_, World.ownsMap_made _ _ _ _, nmOk_nil⟩
theorem int_zero2 (w : World) : (zeroValue 3).run Tryz.prog w = .ok (.int .i64 0) w := by kernel_rfl
theorem nm_look {w : World} {mb : Nat} {ns : List (List UInt8)} (h : NmAt w mb ns) {s : ByteArray} (hs : s.size ≤ maxLen) :
   ∃ v, (Instr.lookup 167 (.map (some mb)) (.string s) true).run Tryz.prog w = .ok (.tuple #[v, .bool (decide (s.toList ∈ ns))]) w := by
 obtain ⟨D, h1, h2⟩ := h
 obtain ⟨v, ps, hr, hv⟩ := h1.look_ok strk_law Tryz.underlying167 (int_zero2 w) (zd := .lit (.int .i64 0)) (zp := []) (plainElem_int Tryz.underlying3 (by decide)) (strk_eq hs)
 rw [lstr_key, h2 s.toList] at hr
 exact ⟨v, hr⟩
theorem nm_put {w : World} {mb : Nat} {ns : List (List UInt8)} (h : NmAt w mb ns) {s : ByteArray} (hs : s.size ≤ maxLen) (hl : ns.length ≤ 1000) {i : Nat} (hi : i ≤ 1000) :
   ∃ w', (Instr.mapUpdate 167 (.map (some mb)) (.string s) (.int .i64 i)).run Tryz.prog w = .ok () w' ∧ NmAt w' mb (ns ++ [s.toList]) ∧ w.grownBy w' (some mb) := by
 obtain ⟨D, h1, h2⟩ := h
 have hv : plainElem (H := Unit) Tryz.prog 3 (.int .i64 i) = some (.lit (.int .i64 i), []) := plainElem_int Tryz.underlying3 (by unfold Lit.wf; rw [Bool.and_eq_true, decide_eq_true_eq, decide_eq_true_eq]; exact ⟨by show (-9223372036854775808 : Int) ≤ (i : Int); omega, by show (i : Int) ≤ 9223372036854775807; omega⟩)
 obtain ⟨w', hr, h3, h4⟩ := h1.update strk_law Tryz.underlying167 (by unfold maxLen; omega) (strk_eq hs) hv
 rw [lstr_key] at h3
 refine ⟨w', hr, ⟨D.put (.string s.toList) (.lit (.int .i64 i)), ?_, nmOk_put h2 h1.isMap hs _⟩, h4⟩
 rw [List.length_append]
 exact h3
end Go.Proofs.YtpheiojmcafolaaGreatDoor
