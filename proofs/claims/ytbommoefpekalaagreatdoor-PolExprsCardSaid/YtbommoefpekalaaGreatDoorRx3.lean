/-
  THE WALKS: the reference's PolicyExpr.
-/
import Derived.Test.YtbommoefpekalaaGreatDoorRx2
import Derived.Test.YtbommoefpekalaaGreatDoorRp2
import Derived.Deep.RegionHeld3
namespace Go.Proofs.YtbommoefpekalaaGreatDoor
open Go.RowKit Go.Sort

/-- The parts of a policy's expression, so many conditions. -/
def partsE (p : Po) (cs : List CdM) : List (List Nd) := [scopeE p.who prB, scopeE p.act acB, scopeE p.what reB] ++ cs.map fun x => condE x.cd
theorem partsE_step {p : Po} {cs : List CdM} {k : Nat} {x : CdM} (h : cs[k]? = some x) : partsE p (cs.take (k + 1)) = partsE p (cs.take k) ++ [condE x.cd] := by
  unfold partsE
  rw [List.take_add_one, h, List.map_append, ← List.append_assoc]; rfl
def andsE (n : Nat) : List Nd := List.replicate n (opN 11)
theorem exprK_parts (p : Po) : ∀ (cs : List CdM), exprK (exprE0 p) cs = andsE (cs.length + 2) ++ (partsE p cs).flatten := by
  intro cs
  have key : ∀ (cs : List CdM) (a b : Nat) (L : List Nd), exprK (andsE a ++ L) cs = andsE (a + cs.length) ++ (L ++ (cs.map fun x => condE x.cd).flatten) := by
    intro cs
    induction cs with
    | nil => intro a b L; simp [exprK]
    | cons x r ih =>
      intro a b L
      have e : exprK (andsE a ++ L) (x :: r) = exprK (andE (andsE a ++ L) (condE x.cd)) r := rfl
      have e2 : andE (andsE a ++ L) (condE x.cd) = andsE (a + 1) ++ (L ++ condE x.cd) := by
        unfold andE andsE
        rw [List.replicate_succ]; simp
      rw [e, e2, ih (a + 1) b]
      simp [show a + 1 + r.length = a + (r.length + 1) from by omega]
  have h0 : exprE0 p = andsE 2 ++ (scopeE p.who prB ++ (scopeE p.act acB ++ scopeE p.what reB)) := by
    unfold exprE0 andE andsE
    simp [List.replicate_succ]
  rw [h0, key cs 2 0, show 2 + cs.length = cs.length + 2 from by omega]
  unfold partsE
  simp
/-- What a call hands back: the nodes, and the number of what is wrong. -/
def NdsNum (w : World) (r : Ending) (w' : World) (xs : List Nd) (k : Int) : Prop :=
  ∃ A c, r = .returned (.tuple #[.slice A xs.length c, .int .i64 k]) ∧ xs.length ≤ c ∧ c ≤ 9223372036854775807 ∧ NdSl w' w'.heap.size A xs ∧ RowKit.Below w.heap.size w w'
theorem nss_map {ps : List NsM} {L : List (List Nd)} (h : ps.map NsM.e = L) : catN ps = L.flatten := by subst h; unfold catN; rw [List.flatMap_def]
theorem sc_range {s : Sc} {b : Bool} (h : scOk s b = true) : 0 ≤ s.op ∧ s.op ≤ 6 := by
  by_cases h1 : 0 ≤ s.op ∧ s.op ≤ 6
  · exact h1
  · exfalso
    unfold scOk at h
    rw [if_neg (by omega), if_neg (by omega), if_neg (by omega), if_neg (by omega), if_neg (by omega)] at h
    exact absurd h (by simp)
theorem pol_scs {p : Po} (h : polErr p = 0) : (0 ≤ p.who.op ∧ p.who.op ≤ 6) ∧ (0 ≤ p.act.op ∧ p.act.op ≤ 6) ∧ (0 ≤ p.what.op ∧ p.what.op ≤ 6) := by
  unfold polErr at h
  split at h
  · rename_i h0; exact absurd h h0
  · split at h
    · cases h
    · rename_i h1
      simp only [not_or, Bool.not_eq_false] at h1
      exact ⟨sc_range h1.1, sc_range h1.2.1, sc_range h1.2.2⟩
set_option maxRecDepth 100000 in
set_option maxHeartbeats 12800000 in
theorem r4_PolicyExpr (p : Po) (cs : List CdM) (A : Option Addr) (c : Nat) (w : World) (hp : p.conds = cs.map CdM.cd) (hz : PoZ p) (hc : CdsAt w w.heap.size A cs) (hl : cs.length ≤ 9223372036854775807) (hk : polErr p = 0) :
    Calls Tryz.prog 22 #[.agg #[.string p.name, .bool p.forbid, .int .i64 p.who.op, .string p.who.ty, .string p.who.uid.ty, .string p.who.uid.id, .int .i64 p.act.op, .string p.act.ty, .string p.act.uid.ty, .string p.act.uid.id, .int .i64 p.what.op, .string p.what.ty, .string p.what.uid.ty, .string p.what.uid.id, .slice A cs.length c]] w fun e w' => NdsNum w e w' (exprP p).1 (exprP p).2 := by
  obtain ⟨i0, hi, hz0, hz1, hz2⟩ := info_parts ns_info
  obtain ⟨j0, hj, hy0, hy1, hy2⟩ := info_parts nd_info
  have HK := Lib.hid (fun (W : World) h => r4_PolicyFault p cs A c W hp hz h hl)
  rw [hk] at HK
  have hcd := pol_conds hk hp
  obtain ⟨hs0, hs1, hs2⟩ := pol_scs hk
  have H0 := Lib.hid (fun W => r4_ScopeExpr p.who prB W (by decide) hs0)
  have H1 := Lib.hid (fun W => r4_ScopeExpr p.act acB W (by decide) hs1)
  have H2 := Lib.hid (fun W => r4_ScopeExpr p.what reB W (by decide) hs2)
  have HP := Lib.hid hp
  have HC := Lib.hid hc
  have HKE := Lib.hid hk
  clear hp hc hz hk
  go_enter Tryz.func22, Tryz.ntmps22
  go_wp2_with fail
  refine (HK.out _ (HC.out.later (by (repeat (first | assumption | exact Below.refl _ _ | apply Below.drew | apply below_drewN | (refine Below.alloc ?_ (by first | exact Nat.le_refl _ | omega | (simp; done) | (simp; omega)) _)))))).mono ?_
  rintro r w1 ⟨rfl, hb1⟩
  have B1 := (Blk.new w 45 _).below hb1 (by simp)
  have hw1 : RowKit.Below w.heap.size w w1 := ((RowKit.Below.refl _ _).alloc (Nat.le_refl _) _).trans (hb1.mono (by simp))
  clear hb1 HK
  have c1 := B1.cell
  have l1 := B1.lt
  go_wp2_with fail
  have HC1 := Lib.hid (HC.out.later hw1)
  have HS0 : Hid (ExS w w1 p w1.drew) := Lib.hid ⟨c1 2, c1 3, c1 4, c1 5, c1 6, c1 7, c1 8, c1 9, c1 10, c1 11, c1 12, c1 13, (RowKit.Below.refl _ _).drew⟩
  go_region_held3 (fun W => (W.cell? ⟨w.heap.size, 2, none⟩ = some (.int .i64 p.who.op) ∧ W.cell? ⟨w.heap.size, 3, none⟩ = some (.string p.who.ty) ∧ W.cell? ⟨w.heap.size, 4, none⟩ = some (.string p.who.uid.ty) ∧ W.cell? ⟨w.heap.size, 5, none⟩ = some (.string p.who.uid.id) ∧ W.cell? ⟨w.heap.size, 6, none⟩ = some (.int .i64 p.act.op) ∧ W.cell? ⟨w.heap.size, 7, none⟩ = some (.string p.act.ty) ∧ W.cell? ⟨w.heap.size, 8, none⟩ = some (.string p.act.uid.ty) ∧ W.cell? ⟨w.heap.size, 9, none⟩ = some (.string p.act.uid.id) ∧ W.cell? ⟨w.heap.size, 10, none⟩ = some (.int .i64 p.what.op) ∧ W.cell? ⟨w.heap.size, 11, none⟩ = some (.string p.what.ty) ∧ W.cell? ⟨w.heap.size, 12, none⟩ = some (.string p.what.uid.ty) ∧ W.cell? ⟨w.heap.size, 13, none⟩ = some (.string p.what.uid.id) ∧ RowKit.Below w1.heap.size w1 W)) (first | exact HS0.out | exact ExS.keep (by assumption) hb l1 | exact ExS.keep (by assumption) ((RowKit.Below.refl _ _).alloc (Nat.le_refl _) _) l1)
    (first
      | (go_at_call 49; ((with_reducible refine (H0.out _).mono ?_)); rintro r W ⟨A0, c0, rfl, hc0, hm0, hs0, hb⟩; have k0 : RowKit.Below w1.heap.size w1 W := (RowKit.Below.refl _ _).drew.trans hb; have g0 := NsGood.of hs0 hc0 hm0; clear hc0 hm0 hs0)
      | (go_at_call 49; ((with_reducible refine (H1.out _).mono ?_)); rintro r W ⟨A1, c1', rfl, hc0, hm0, hs0, hb⟩; have k1 := k0.trans (hb.mono k0.size); have g1 := NsGood.of hs0 hc0 hm0; replace g0 := g0.later hb; clear hc0 hm0 hs0)
      | (go_at_call 49; ((with_reducible refine (H2.out _).mono ?_)); rintro r W ⟨A2, c2, rfl, hc0, hm0, hs0, hb⟩; have hwW := k1.trans (hb.mono k1.size); have g2 := NsGood.of hs0 hc0 hm0; replace g0 := g0.later hb; replace g1 := g1.later hb; clear hc0 hm0 hs0))
  have d14 : W.cell? ⟨w.heap.size, 14, none⟩ = some (.slice A cs.length c) := (hwW.cell (p := ⟨w.heap.size, 14, none⟩) l1).trans (c1 14)
  have lW : w.heap.size < W.heap.size := by have := hwW.size; omega
  have HCW := Lib.hid (HC1.out.later hwW)
  have hbW := hw1.trans (hwW.mono hw1.size)
  have HSM := Lib.hid (pol_conds HKE.out HP.out)
  have hl4 := HSM.out.1
  have HEX : Hid (exprP p = if 200 < (andsE (cs.length + 2) ++ (partsE p cs).flatten).length then ([], 4) else (andsE (cs.length + 2) ++ (partsE p cs).flatten, 0)) := by
    show _ = _
    unfold exprP
    rw [if_neg (by rw [HKE.out]; simp)]
    have : exprE p = exprK (exprE0 p) cs := by unfold exprE exprK; rw [HP.out, List.foldl_map]
    rw [this, exprK_parts]
  have HLEN : Hid ((andsE (cs.length + 2) ++ (partsE p cs).flatten).length ≤ 20 + 202 * 4) := by
    show _ ≤ _
    rw [← exprK_parts]
    exact Nat.le_trans (exprK_le (exprE0_le p) fun x hx => (tree_len (HSM.out.2 x hx)).1) (by omega)
  have HO0 := Lib.hid (World.ownsRow_lit (base := W.heap.size) (e := 58) (size := 1) W #[.slice A0 (scopeE p.who prB).length c0, .slice A1 (scopeE p.act acB).length c1', .slice A2 (scopeE p.what reB).length c2] 3 (by simp) (by decide) (by simp))
  have HB2 : Hid (RowKit.Below W.heap.size W (W.alloc (.cells #[.slice A0 (scopeE p.who prB).length c0, .slice A1 (scopeE p.act acB).length c1', .slice A2 (scopeE p.what reB).length c2] 58))) := Lib.hid (by (repeat (first | assumption | exact Below.refl _ _ | apply Below.drew | apply below_drewN | (refine Below.alloc ?_ (by first | exact Nat.le_refl _ | omega | (simp; done) | (simp; omega)) _))))
  have HN0 : Hid (∀ y ∈ ([⟨A0, c0, scopeE p.who prB⟩, ⟨A1, c1', scopeE p.act acB⟩, ⟨A2, c2, scopeE p.what reB⟩] : List NsM), NsOff (W.alloc (.cells #[.slice A0 (scopeE p.who prB).length c0, .slice A1 (scopeE p.act acB).length c1', .slice A2 (scopeE p.what reB).length c2] 58)) (some W.heap.size) y) := by
    intro y hy
    have hg : NsGood W W.heap.size y := by
      simp only [List.mem_cons, List.not_mem_nil, or_false] at hy
      rcases hy with rfl | rfl | rfl
      · exact g0
      · exact g1
      · exact g2
    exact (hg.away (q := some W.heap.size) (Nat.le_refl _) (fun b hb => by injection hb with hb; omega)).later (by (repeat (first | assumption | exact Below.refl _ _ | apply Below.drew | apply below_drewN | (refine Below.alloc ?_ (by first | exact Nat.le_refl _ | omega | (simp; done) | (simp; omega)) _))))
  clear g0 g1 g2 k0 k1 c1 HS0 HC1 HP HKE HC H0 H1 H2 hs0 hs1 hs2 hcd
  generalize hW2 : W.alloc _ = W2 at *
  have hB2 := HB2.out
  have e14 : W2.cell? ⟨w.heap.size, 14, none⟩ = some (.slice A cs.length c) := (hB2.cell (p := ⟨w.heap.size, 14, none⟩) lW).trans d14
  clear hW2 d14
  go_wp2_with fail
  go_loopw [6, 5] (fun ii pv wr => ∃ (k : Nat) (ps : List NsM), ii = .int .i64 k ∧ k ≤ cs.length ∧ Hid (ps.map NsM.e = partsE p (cs.take k)) ∧ Hid (wr.ownsRow W.heap.size 58 1 pv ps.length (flatG NsM.cells ps)) ∧ Hid (∀ y ∈ ps, NsOff wr pv.ownBlock y) ∧ RowKit.Below W.heap.size W wr) (fun ii _ _ => cs.length - (intOf ii).toNat)
  case atStart => exact ⟨0, [⟨A0, c0, scopeE p.who prB⟩, ⟨A1, c1', scopeE p.act acB⟩, ⟨A2, c2, scopeE p.what reB⟩], rfl, by omega, rfl, HO0.out, HN0.out, hB2⟩
  case round =>
    obtain ⟨k, ps, rfl, hk, HM, HO, HN, hbr⟩ := hrel
    have hzr := hbr.size
    have hpl : ps.length = 3 + k := by
      have := congrArg List.length HM.out
      rw [List.length_map] at this
      rw [this]; unfold partsE; simp; omega
    have f14 : wr.cell? ⟨w.heap.size, 14, none⟩ = some (.slice A cs.length c) := (hbr.cell (p := ⟨w.heap.size, 14, none⟩) lW).trans ((hB2.cell (p := ⟨w.heap.size, 14, none⟩) lW).symm.trans e14)
    clear e14
    have lwr : w.heap.size < wr.heap.size := by omega
    by_cases hlt : k < cs.length
    · obtain ⟨⟨u, Ax, cx, e⟩, hx⟩ : ∃ x, cs[k]? = some x := ⟨_, List.getElem?_eq_getElem hlt⟩
      have hg := HCW.out.good _ (List.mem_of_getElem? hx)
      have het : e.length ≤ 200 ∧ 0 < e.length := tree_len (HSM.out.2 _ (List.mem_of_getElem? hx))
      obtain ⟨b, o, rfl, hb, ⟨d0, d1⟩⟩ := cdSl_at (HCW.out.sl.below hbr) hx
      have HST := Lib.hid (partsE_step (p := p) hx)
      have hen : e ≠ [] := by intro h; subst h; exact absurd het.2 (by simp)
      have hx1 : NsGood wr W.heap.size ⟨Ax, cx, e⟩ := ⟨hg.sl.below hbr, hg.le, hg.max⟩
      have HX := Lib.hid hx1
      have HX2 := Lib.hid (NsGood.later (w := wr) (x := ⟨Ax, cx, e⟩) ⟨hx1.sl.more hzr, hg.le, hg.max⟩ (w' := wr.alloc (.cells #[.slice Ax e.length cx] 58)) (by (repeat (first | assumption | exact Below.refl _ _ | apply Below.drew | apply below_drewN | (refine Below.alloc ?_ (by first | exact Nat.le_refl _ | omega | (simp; done) | (simp; omega)) _)))))
      have HEN := Lib.hid hen
      clear hx hg hx1 hen
      have hbw : b < wr.heap.size := by omega
      cases u with
      | false =>
        go_wp2_with (at_builtin; refine wpList_append_own_at _ rfl (.tmp 48) (.tmp 50) 100 rfl W.heap.size 58 i0 _ 1 24 Tryz.underlying100 hi hz0 hz1 hz2 rfl (by omega) _ ps.length (flatG NsM.cells ps) rfl (own_keep HO.out (by (repeat (first | assumption | exact Below.refl _ _ | apply Below.drew | apply below_drewN | (refine Below.alloc ?_ (by first | exact Nat.le_refl _ | omega | (simp; done) | (simp; omega)) _))))) ⟨wr.heap.size, 0, none⟩ 1 1 [.slice Ax e.length cx] rfl rfl (cell_one_new _ _ _) (by simp [Value.oneCell']) (by unfold maxLen; omega) (by omega) (by simp; omega) ?_; intro v6 w6 hown6 hgrow6 _ hloc6)
        have HN6 := Lib.hid (collect (x := ⟨Ax, cx, e⟩) (by (repeat (first | assumption | exact Below.refl _ _ | apply Below.drew | apply below_drewN | (refine Below.alloc ?_ (by first | exact Nat.le_refl _ | omega | (simp; done) | (simp; omega)) _)))) HN.out ((HX.out.away hzr fun b hb => (own_lt HO.out hb).1).later (by (repeat (first | assumption | exact Below.refl _ _ | apply Below.drew | apply below_drewN | (refine Below.alloc ?_ (by first | exact Nat.le_refl _ | omega | (simp; done) | (simp; omega)) _))))) hgrow6 hloc6)
        have hb6 : RowKit.Below W.heap.size W w6 := (hbr.alloc hzr _).grown hgrow6 (by simp; omega) (fun q hq => (own_lt HO.out hq).1)
        have HM6 : Hid ((ps ++ [(⟨Ax, cx, e⟩ : NsM)]).map NsM.e = partsE p (cs.take (k + 1))) := by
          show _ = _
          rw [HST.out, List.map_append, HM.out]; rfl
        exact ⟨⟨k + 1, ps ++ [⟨Ax, cx, e⟩], by go_num, by omega, HM6, by rw [List.length_append, ns_snoc]; exact hown6, HN6, hb6⟩, by simp [intOf]; omega⟩
      | true =>
        have HG1 := Lib.hid (r4_glued1 (opN 9) ⟨Ax, cx, e⟩ wr (by have := HX.out; exact ⟨this.sl.more hzr, this.le, this.max⟩) HEN.out (by have := het.1; show e.length ≤ 100000; omega))
        have HL2 : Hid ((condE ⟨true, e⟩).length = e.length + 1) := rfl
        go_wp2_with fail
        refine HG1.out.mono ?_
        rintro r w5 ⟨A5, c5, rfl, hc5, hm5, hs5, hb5, hn5⟩
        have hb5' : RowKit.Below W.heap.size W w5 := hbr.trans (hb5.mono hzr)
        have hz5 := hb5.size
        have HN5 := Lib.hid (NsGood.fresh (q := u5.ownBlock) (NsGood.of hs5 hc5 hm5) hn5 (fun b hb => (own_lt HO.out hb).2))
        have HB5 := Lib.hid hb5
        have HO5 := Lib.hid (own_keep HO.out hb5)
        have HC5 := Lib.hid hc5
        clear hs5 hc5 hb5 hn5 HG1
        go_wp2_with (at_builtin; refine wpList_append_own_at _ rfl (.tmp 48) (.tmp 50) 100 rfl W.heap.size 58 i0 _ 1 24 Tryz.underlying100 hi hz0 hz1 hz2 rfl (by omega) _ ps.length (flatG NsM.cells ps) rfl (own_keep HO5.out (by (repeat (first | assumption | exact Below.refl _ _ | apply Below.drew | apply below_drewN | (refine Below.alloc ?_ (by first | exact Nat.le_refl _ | omega | (simp; done) | (simp; omega)) _))))) ⟨w5.heap.size, 0, none⟩ 1 1 [.slice A5 (opN 9 :: e).length c5] rfl rfl (cell_one_new _ _ _) (by simp [Value.oneCell']) (by unfold maxLen; omega) (by omega) (by simp; omega) ?_; intro v6 w6 hown6 hgrow6 _ hloc6)
        have HN6 := Lib.hid (collect (x := ⟨A5, c5, opN 9 :: e⟩) (wr := w5) (by (repeat (first | assumption | exact Below.refl _ _ | apply Below.drew | apply below_drewN | (refine Below.alloc ?_ (by first | exact Nat.le_refl _ | omega | (simp; done) | (simp; omega)) _)))) (fun y hy => (HN.out y hy).later HB5.out) (HN5.out.later (by (repeat (first | assumption | exact Below.refl _ _ | apply Below.drew | apply below_drewN | (refine Below.alloc ?_ (by first | exact Nat.le_refl _ | omega | (simp; done) | (simp; omega)) _))))) hgrow6 hloc6)
        have hb6 : RowKit.Below W.heap.size W w6 := (hb5'.alloc (by omega) _).grown hgrow6 (by simp; omega) (fun q hq => (own_lt HO.out hq).1)
        have HM6 : Hid ((ps ++ [(⟨A5, c5, opN 9 :: e⟩ : NsM)]).map NsM.e = partsE p (cs.take (k + 1))) := by
          show _ = _
          rw [HST.out, List.map_append, HM.out]; rfl
        exact ⟨⟨k + 1, ps ++ [⟨A5, c5, opN 9 :: e⟩], by go_num, by omega, HM6, by rw [List.length_append, ns_snoc]; exact hown6, HN6, hb6⟩, by simp [intOf]; omega⟩
    · obtain ⟨wo, rfl⟩ : ∃ wo : World, wo = wr := ⟨_, rfl⟩
      have hkc : k = cs.length := by omega
      have HPS : Hid (ps.map NsM.e = partsE p cs) := by
        show _ = _
        rw [HM.out, hkc, List.take_of_length_le (Nat.le_refl _)]
      have hpc : ps.length = 3 + cs.length := by omega
      have HCT : Hid (catN ps = (partsE p cs).flatten) := nss_map HPS.out
      have HPL : Hid (ps.length = 3 + cs.length) := hpc
      obtain ⟨-, Ap, cp, hv, hcp, hcm, hsp⟩ := own_formG ns_ok HO.out
      subst hv
      have HS : Hid (NssAt wo Ap ps) := ⟨hsp, fun y hy => (HN.out y hy).good⟩
      have HNE : Hid (∀ y ∈ ps, y.e.length ≤ (catN ps).length) := by
        intro y hy
        obtain ⟨l1, l2, rfl⟩ := List.append_of_mem hy
        simp [catN]; omega
      have HPE : Hid (∀ y ∈ ps, y.e ≠ []) := by
        intro y hy h0
        have hm : y.e ∈ partsE p cs := by rw [← HPS.out]; exact List.mem_map_of_mem hy
        rw [h0] at hm
        unfold partsE at hm
        rcases List.mem_append.1 hm with h | h
        · simp only [List.mem_cons, List.not_mem_nil, or_false] at h
          rcases h with h | h | h
          · exact scopeE_ne _ _ h.symm
          · exact scopeE_ne _ _ h.symm
          · exact scopeE_ne _ _ h.symm
        · obtain ⟨x, hx, h⟩ := List.mem_map.1 h
          have hx2 := (tree_len (HSM.out.2 x hx)).2
          unfold condE at h
          split at h
          · cases h
          · have : x.e = [] := h
            rw [this] at hx2; simp at hx2
      have hcat : (andsE (cs.length + 2)).length + (catN ps).length ≤ 20 + 202 * 4 := by
        have := HLEN.out
        rw [List.length_append, ← HCT.out] at this
        exact this
      have HCC : Hid ((andsE (cs.length + 2)).length = cs.length + 2) := List.length_replicate
      rw [HCC.out] at hcat
      have hp1 : ps.length ≤ 3 + cs.length := by omega
      have hp2 : 3 + cs.length ≤ ps.length := by omega
      clear hsp HO HN HM HPS hkc hpc HCW hpl
      have hbW2 := hbW.trans (hbr.mono (by omega))
      go_wp2_with fail
      go_loopw [9, 8] (fun jj ov w4 => ∃ k : Nat, jj = .int .i64 ((k : Int) + 1) ∧ k + 1 ≤ ps.length ∧ Hid (w4.ownsRow wo.heap.size 92 4 ov k (flat (andsE k))) ∧ RowKit.Below wo.heap.size wo w4) (fun jj _ _ => ps.length - (intOf jj).toNat)
      case atStart => exact ⟨0, rfl, by rw [HPL.out]; omega, World.ownsRow_nil _ _ _ _, RowKit.Below.refl _ _⟩
      case round =>
        obtain ⟨k4, rfl, hk4, HO4, hb4⟩ := hrel
        have hz4 := hb4.size
        by_cases hlt4 : k4 + 1 < ps.length
        · have t1 : (k4 : Int) + 1 < (ps.length : Int) := by omega
          go_wp2_with (at_builtin; refine wpList_append_own _ rfl (.tmp 58) (.tmp 60) 58 rfl wo.heap.size 92 j0 _ 4 48 Tryz.underlying58 hj hy0 hy1 hy2 rfl (by omega) _ k4 (flat (andsE k4)) rfl (own_keep HO4.out (by (repeat (first | assumption | exact Below.refl _ _ | apply Below.drew | apply below_drewN | (refine Below.alloc ?_ (by first | exact Nat.le_refl _ | omega | (simp; done) | (simp; omega)) _))))) ⟨wr.heap.size, 0, none⟩ 1 1 (flat [opN 11]) rfl rfl (new_flat wr 92 (opN 11) _ rfl) (flat_one_cell _) (by unfold maxLen; omega) (by omega) (by simp; omega) ?_; intro v6 w6 hown6 hgrow6 _)
          have hb6 : RowKit.Below wo.heap.size wo w6 := (hb4.alloc hz4 _).grown hgrow6 (by simp; omega) (fun q hq => (own_lt HO4.out hq).1)
          exact ⟨⟨k4 + 1, by go_num, by omega, by rw [show andsE (k4 + 1) = andsE k4 ++ [opN 11] from List.replicate_succ', flat_append]; exact hown6, hb6⟩, by simp [intOf]; omega⟩
        · have t1 : ¬ (k4 : Int) + 1 < (ps.length : Int) := by omega
          go_wp2_with fail
          obtain ⟨w4, rfl⟩ : ∃ w4 : World, w4 = wr := ⟨_, rfl⟩
          have hk5 : k4 = cs.length + 2 := by have := HPL.out; omega
          subst hk5
          have HS4 := Lib.hid (HS.out.later hb4)
          have hzz := HS4.out.sl
          clear hzz
          go_wp2_with fail
          go_loopw [10, 8] (fun jj ov w5 => ∃ q : Nat, jj = .int .i64 q ∧ q ≤ ps.length ∧ Hid (w5.ownsRow wo.heap.size 92 4 ov (andsE (cs.length + 2) ++ catN (ps.take q)).length (flat (andsE (cs.length + 2) ++ catN (ps.take q)))) ∧ RowKit.Below wo.heap.size wo w5) (fun jj _ _ => ps.length - (intOf jj).toNat)
          case atStart => exact ⟨0, rfl, by omega, by simpa [catN, andsE, Hid] using HO4.out, hb4⟩
          case round =>
            obtain ⟨q, rfl, hq, HO5, hb5⟩ := hrel
            have hz5 := hb5.size
            by_cases hlt5 : q < ps.length
            · obtain ⟨⟨Aq, cq, e⟩, hx⟩ : ∃ x, ps[q]? = some x := ⟨_, List.getElem?_eq_getElem hlt5⟩
              have hm := List.mem_of_getElem? hx
              have hen := HPE.out _ hm
              have hel := HNE.out _ hm
              simp only at hen hel
              have hss := HS.out.later hb5
              obtain ⟨b, o, rfl, hb, d0⟩ := nsSl_at (HS.out.sl.below hb5) hx
              obtain ⟨bn, on, rfl, hbn, -⟩ := (hss.good _ hm).sl hen
              have HF := Lib.hid (fun j u hu => NdSl.flat (hss.good _ hm).sl j u hu)
              have HST := Lib.hid (catN_step hx)
              have h1 := catN_le (ps := ps) q
              have hbw : b < wr.heap.size := by omega
              have HLE : Hid ((andsE (cs.length + 2) ++ catN (ps.take q)).length = cs.length + 2 + (catN (ps.take q)).length) := by show _ = _; rw [List.length_append, HCC.out]
              simp only at d0
              generalize hLg : andsE (cs.length + 2) ++ catN (ps.take q) = L at HO5 HLE
              have HLG := Lib.hid hLg
              clear hLg
              have hLL : L.length ≤ 828 := by rw [HLE.out]; omega
              clear hx hm hss hen
              go_wp2_with (at_builtin; refine wpList_append_own _ rfl (.tmp 68) (.tmp 72) 58 rfl wo.heap.size 92 j0 _ 4 48 Tryz.underlying58 hj hy0 hy1 hy2 rfl (by omega) _ L.length (flat L) rfl HO5.out ⟨bn, on, none⟩ e.length cq (flat e) rfl (flat_len e) HF.out (flat_one_cell _) (by unfold maxLen; omega) (by omega) (by omega) ?_; intro v6 w6 hown6 hgrow6 _)
              have hb6 : RowKit.Below wo.heap.size wo w6 := hb5.grown hgrow6 (by omega) (fun q hq => (own_lt HO5.out hq).1)
              have HO6 : Hid (w6.ownsRow wo.heap.size 92 4 v6 (andsE (cs.length + 2) ++ catN (ps.take (q + 1))).length (flat (andsE (cs.length + 2) ++ catN (ps.take (q + 1))))) := by
                show World.ownsRow _ _ _ _ _ _ _
                rw [HST.out, ← List.append_assoc, HLG.out, flat_append, List.length_append]
                exact hown6
              exact ⟨⟨q + 1, by go_num, by omega, by simpa only [List.length_append] using HO6, hb6⟩, by simp [intOf]; omega⟩
            · have hqe : q = ps.length := by omega
              rw [hqe, List.take_of_length_le (Nat.le_refl _), HCT.out] at HO5
              obtain ⟨Ao, co, hov, hco, hcm5, hso⟩ := own_form (xs := andsE (cs.length + 2) ++ (partsE p cs).flatten) (ys := []) (by rw [show flat ([] : List Nd) = [] from rfl, List.append_nil]; exact HO5.out)
              rw [List.append_nil] at hso
              subst hov
              generalize andsE (cs.length + 2) ++ (partsE p cs).flatten = L at *
              have HSO := Lib.hid hso
              have HCO := Lib.hid hco
              have hbF := hbW2.trans (hb5.mono hbW2.size)
              clear hso hco hqe HO5
              by_cases h2 : 200 < L.length
              · have t2 : 200 < (L.length : Int) := by omega
                have HV : Hid (exprP p = ([], 4)) := by show _ = _; rw [HEX.out, if_pos h2]
                clear h2
                go_wp2_with fail
                go_ret2
                rw [HV.out]
                exact ⟨none, 0, rfl, Nat.le_refl _, by omega, NdSl.nil _ _ _, hbF⟩
              · have t2 : ¬ 200 < (L.length : Int) := by omega
                have HV : Hid (exprP p = (L, 0)) := by show _ = _; rw [HEX.out, if_neg h2]
                clear h2
                go_wp2_with fail
                go_ret2
                rw [HV.out]
                exact ⟨Ao, co, rfl, HCO.out, hcm5, HSO.out, hbF⟩
end Go.Proofs.YtbommoefpekalaaGreatDoor
