/-
  THE WALKS: link.Link, where nothing is wrong.
-/
import Derived.Test.YtbommoefpekalaaGreatLnk3
namespace Go.Proofs.YtbommoefpekalaaGreat
open Go.RowKit Go.Sort

theorem LRow.po_far {F : Nat → Prop} {cs ds : List CdM} {g b : Nat} {w : World} {V : Array Value} (h : LRow F cs g w V ds) (hp : F b) (hg : g ≠ b) (x0 x1 x2 x3 x4 x5 x6 x7 x8 x9 x10 x11 x12 x13 x14 : Value) :
    LRow F cs g (((((((((((((((w.setCell ⟨b, 0, none⟩ x0).setCell ⟨b, 1, none⟩ x1).setCell ⟨b, 2, none⟩ x2).setCell ⟨b, 3, none⟩ x3).setCell ⟨b, 4, none⟩ x4).setCell ⟨b, 5, none⟩ x5).setCell ⟨b, 6, none⟩ x6).setCell ⟨b, 7, none⟩ x7).setCell ⟨b, 8, none⟩ x8).setCell ⟨b, 9, none⟩ x9).setCell ⟨b, 10, none⟩ x10).setCell ⟨b, 11, none⟩ x11).setCell ⟨b, 12, none⟩ x12).setCell ⟨b, 13, none⟩ x13).setCell ⟨b, 14, none⟩ x14) V ds :=
  ((((((((((((((h.far (p := ⟨b, 0, none⟩) hp hg x0).far (p := ⟨b, 1, none⟩) hp hg x1).far (p := ⟨b, 2, none⟩) hp hg x2).far (p := ⟨b, 3, none⟩) hp hg x3).far (p := ⟨b, 4, none⟩) hp hg x4).far (p := ⟨b, 5, none⟩) hp hg x5).far (p := ⟨b, 6, none⟩) hp hg x6).far (p := ⟨b, 7, none⟩) hp hg x7).far (p := ⟨b, 8, none⟩) hp hg x8).far (p := ⟨b, 9, none⟩) hp hg x9).far (p := ⟨b, 10, none⟩) hp hg x10).far (p := ⟨b, 11, none⟩) hp hg x11).far (p := ⟨b, 12, none⟩) hp hg x12).far (p := ⟨b, 13, none⟩) hp hg x13).far (p := ⟨b, 14, none⟩) hp hg x14
theorem LInv.get {w wr : World} {cs : List CdM} {g k : Nat} {bx : Array Value} (h : LInv w cs g bx wr) (hk : k < cs.length) : ∃ V ds u A c e, LRow (lF w g) cs g wr V ds ∧ ds[k]? = some ⟨u, A, c, e⟩ ∧ (∃ y ∈ cs, y.e = e) := by
  obtain ⟨V, ds, hr⟩ := h.row
  have hl : ds.length = cs.length := by have := congrArg List.length hr.same; simpa using this
  obtain ⟨⟨u, A, c, e⟩, hx⟩ : ∃ x, ds[k]? = some x := ⟨_, List.getElem?_eq_getElem (by omega)⟩
  obtain ⟨y, hy⟩ : ∃ y, cs[k]? = some y := ⟨_, List.getElem?_eq_getElem hk⟩
  have h := congrArg (fun l => l[k]?) hr.same
  simp only [List.getElem?_map, hx, hy, Option.map_some, Option.some.injEq, CdM.cd, Cd.mk.injEq] at h
  exact ⟨V, ds, u, A, c, e, hr, hx, y, List.mem_of_getElem? hy, h.2.symm⟩
set_option maxRecDepth 100000 in
set_option maxHeartbeats 12800000 in
theorem link_good (p : Po) (cs : List CdM) (A : Option Addr) (c : Nat) (who what : Ud) (w : World) (hp : p.conds = cs.map CdM.cd) (hz : PoZ p) (hc : CdsAt w w.heap.size A cs) (hl : cs.length ≤ 9223372036854775807) (hu1 : UdOk who) (hu2 : UdOk what) (hk : polErr p = 0) (hk1 : (fillP p.who who).2 = 0) (hk2 : (fillP p.what what).2 = 0) :
    Calls Tryz.prog 5 #[.agg #[.string p.name, .bool p.forbid, .int .i64 p.who.op, .string p.who.ty, .string p.who.uid.ty, .string p.who.uid.id, .int .i64 p.act.op, .string p.act.ty, .string p.act.uid.ty, .string p.act.uid.id, .int .i64 p.what.op, .string p.what.ty, .string p.what.uid.ty, .string p.what.uid.id, .slice A cs.length c], .agg #[.string who.ty, .string who.id], .agg #[.string what.ty, .string what.id]] w fun e w' => PoBack w e w' (linkP p who what).1 (linkP p who what).2 := by
  obtain ⟨q, k, hq⟩ : ∃ q k, linkP p who what = (q, k) := ⟨_, _, rfl⟩
  rw [hq]
  have HP := Lib.hid hp
  have HC := Lib.hid hc
  have HK := Lib.hid (fun (W : World) h => pol_Check p cs A c W hp hz h hl)
  have HU1 := Lib.hid (fun W => filled_at p.who who W hu1)
  have HU2 := Lib.hid (fun W => filled_at p.what what W hu2)
  obtain ⟨q1, k1, hq1⟩ : ∃ q k, fillP p.who who = (q, k) := ⟨_, _, rfl⟩
  obtain ⟨q2, k2, hq2⟩ : ∃ q k, fillP p.what what = (q, k) := ⟨_, _, rfl⟩
  rw [linkP] at hq
  rw [hq1] at HU1 hk1
  rw [hq2] at HU2 hk2
  rw [hq1, hq2] at hq
  clear hp hc hz hu1 hu2 hq1 hq2
  have hk1 : k1 = 0 := hk1
  subst hk1
  have hk2 : k2 = 0 := hk2
  subst hk2
  rw [if_neg (by simp [hk]), if_neg (by simp), if_neg (by simp)] at hq
  have HV := Lib.hid hq
  have tk : (polErr p != 0) = false := by simp [hk]
  have hsm := po_small hk HP.out
  have hl4 : cs.length ≤ 4 := hsm.1
  have HSM := Lib.hid hsm.2
  clear hk hq hsm
  go_enter Tryz.func5, Tryz.ntmps5
  go_wp2_with fail
  refine (HK.out _ (HC.out.later (by (repeat (first | assumption | exact Below.refl _ _ | apply Below.drew | apply below_drewN | (refine Below.alloc ?_ (by first | exact Nat.le_refl _ | omega | (simp; done) | (simp; omega)) _)))))).mono ?_
  rintro e w1 ⟨rfl, hb1⟩
  have b1 := blk5 hb1
  clear hb1
  have c0 := b1.box.cell
  have c1 := b1.u1.cell
  have c2 := b1.u2.cell
  have c3 := b1.res.cell
  simp only [zeroPo] at c3
  have f0 := b1.box.frozen
  have f3 := b1.res.frozen
  have l0 := b1.box.lt
  have l1 := b1.u1.lt
  have l2 := b1.u2.lt
  have l3 := b1.res.lt
  go_wp2_with fail
  refine (HU1.out _).mono ?_
  rintro e w2 ⟨rfl, hb2⟩
  have b2 := b1.later hb2
  clear c0 c1 c2 c3 f0 f3 l0 l1 l2 l3
  clear hb2
  have c0 := b2.box.cell
  have c1 := b2.u1.cell
  have c2 := b2.u2.cell
  have c3 := b2.res.cell
  simp only [zeroPo] at c3
  have f0 := b2.box.frozen
  have f3 := b2.res.frozen
  have l0 := b2.box.lt
  have l1 := b2.u1.lt
  have l2 := b2.u2.lt
  have l3 := b2.res.lt
  go_wp2_with fail
  have d1 := b2.put 2 (.int .i64 q1.op) (.string q1.ty) (.string q1.uid.ty) (.string q1.uid.id)
  refine (HU2.out _).mono ?_
  rintro e w3 ⟨rfl, hb3⟩
  have b3 := d1.later hb3
  simp only [List.setIfInBounds_toArray, List.set_cons_zero, List.set_cons_succ] at b3
  clear c0 c1 c2 c3 f0 f3 l0 l1 l2 l3
  clear hb3 d1
  have c0 := b3.box.cell
  have c1 := b3.u1.cell
  have c2 := b3.u2.cell
  have c3 := b3.res.cell
  simp only [zeroPo] at c3
  have f0 := b3.box.frozen
  have f3 := b3.res.frozen
  have l0 := b3.box.lt
  have l1 := b3.u1.lt
  have l2 := b3.u2.lt
  have l3 := b3.res.lt
  go_wp2_with fail
  have d3 := b3.put 10 (.int .i64 q2.op) (.string q2.ty) (.string q2.uid.ty) (.string q2.uid.id)
  simp only [List.setIfInBounds_toArray, List.set_cons_zero, List.set_cons_succ] at d3
  refine (clone_conds cs A c _ (HC.out.later d3.on).sl hl4).mono ?_
  rintro e w4 ⟨A4, c4, rfl, hc4, hm4, hrow, hb4⟩
  have b4 := d3.later hb4
  clear c0 c1 c2 c3 f0 f3 l0 l1 l2 l3
  have hd3 := d3.res.lt
  clear b3 d3 hb4 b2
  have HQE := Lib.hid hc4
  have HQM := Lib.hid hm4
  rcases hrow with rfl | ⟨g, V, rfl, hgw, hcb⟩
  · have c0 := b4.box.cell
    have c3 := b4.res.cell
    simp only [zeroPo] at c3
    have f0 := b4.box.frozen
    have f3 := b4.res.frozen
    have l0 := b4.box.lt
    have l3 := b4.res.lt
    clear HSM
    go_wp2_with fail
    refine wp_loop_rounds 1 ?_
    rw [rounds_succ]
    go_wp2_with fail
    have E1 := b4.box.set 14 (.slice A4 0 c4)
    have E3 := b4.res.far (p := ⟨w.heap.size, 14, none⟩) (by show w.heap.size + 1 + 1 + 1 ≠ w.heap.size; omega) (.slice A4 0 c4)
    have B4 := po_stored E3 rfl (.string p.name) (.bool p.forbid) (.int .i64 q1.op) (.string q1.ty) (.string q1.uid.ty) (.string q1.uid.id) (.int .i64 p.act.op) (.string p.act.ty) (.string p.act.uid.ty) (.string p.act.uid.id) (.int .i64 q2.op) (.string q2.ty) (.string q2.uid.ty) (.string q2.uid.id) (.slice A4 0 c4)
    have kk := B4.cell
    refine bodyPost_ret (v := .tuple #[.agg #[.string p.name, .bool p.forbid, .int .i64 q1.op, .string q1.ty, .string q1.uid.ty, .string q1.uid.id, .int .i64 p.act.op, .string p.act.ty, .string p.act.uid.ty, .string p.act.uid.id, .int .i64 q2.op, .string q2.ty, .string q2.uid.ty, .string q2.uid.id, .slice A4 0 c4], errV 0]) (by simp [results, Tryz.results5, go_sem, kk, errV_zero]) rfl ?_
    have hv := HV.out
    injection hv with h1 h2
    rw [← h1, ← h2]
    exact ⟨A4, c4, [], rfl, HQE.out, HQM.out, HP.out, ⟨SlG.nil _ _ _, by simp⟩, po_below (b4.on.setCell (p := ⟨w.heap.size, 14, none⟩) (Nat.le_refl _) _) (by omega) _ _ _ _ _ _ _ _ _ _ _ _ _ _ _⟩
  · have hinv : LInv w cs g _ w4 := ⟨b4.box, b4.res, ⟨V, cs, ⟨hcb, rfl, fun x hx => ((HC.out.good x hx).sl.below b4.on).off (fun b hb => by rcases hb with rfl | rfl | rfl <;> omega) b4.on.size, fun x hx => ⟨(HC.out.good x hx).le, (HC.out.good x hx).max, (HC.out.good x hx).ok⟩⟩⟩, b4.on, by omega⟩
    have HI := Lib.hid hinv
    clear hinv hcb b4 hgw hd3
    go_wp2_with fail
    go_loopw [47] (fun ii wr => ∃ k : Nat, ii = .int .i64 k ∧ k ≤ cs.length ∧ Hid (LInv w cs g #[.string p.name, .bool p.forbid, .int .i64 q1.op, .string q1.ty, .string q1.uid.ty, .string q1.uid.id, .int .i64 p.act.op, .string p.act.ty, .string p.act.uid.ty, .string p.act.uid.id, .int .i64 q2.op, .string q2.ty, .string q2.uid.ty, .string q2.uid.id, .slice A cs.length c] wr)) (fun ii _ => cs.length - (intOf ii).toNat)
    case atStart => exact ⟨0, rfl, by omega, HI⟩
    case round =>
      obtain ⟨k, rfl, hk, HI⟩ := hrel
      by_cases hlt : k < cs.length
      · obtain ⟨V, ds, u, Ax, cx, e, hr, hx, y, hy, rfl⟩ := HI.out.get hlt
        have hel := HSM.out y hy
        have d1 := (hr.row.blk.cell (k * 2 + 1)).trans (hr.row.at1 k _ hx)
        have f1 := hr.row.blk.frozen (k * 2 + 1)
        have l1 := hr.row.blk.lt
        have HK1 := Lib.hid (clone_nodes y.e Ax cx wr (hr.off _ (List.mem_of_getElem? hx)).sl hel)
        have HST := Lib.hid (fun w5 (A5 : Option Addr) c5 hb ho h1 h2 => HI.out.step (w5 := w5) (A5 := A5) (c5 := c5) hr hx hb ho h1 h2)
        have HF := Lib.hid (HI.out.lF_lt l1)
        clear hr hx HC HSM
        simp only at d1
        go_wp2_with fail
        refine HK1.out.mono ?_
        rintro r w5 ⟨A5, c5, rfl, hc5, hm5, hof, hb5⟩
        have hg5 : w5.heap.size ≥ wr.heap.size := hb5.size
        have d5 := (hb5.cell (p := ⟨g, k * 2 + 1, none⟩) l1).trans d1
        have f5 := (hb5.frozen (p := ⟨g, k * 2 + 1, none⟩) l1).trans f1
        have l5 : g < w5.heap.size := by omega
        have HN := Lib.hid (HST.out w5 A5 c5 hb5 (hof _ HF.out) hc5 hm5)
        clear d1 f1 hb5 hof hc5
        go_wp2_with fail
        exact ⟨⟨k + 1, by go_num, by omega, HN⟩, by simp [intOf]; omega⟩
      · obtain ⟨V, ds, hr⟩ := HI.out.row
        have c0 := HI.out.box.cell
        have c3 := HI.out.res.cell
        simp only [zeroPo] at c3
        have f0 := HI.out.box.frozen
        have f3 := HI.out.res.frozen
        have l0 := HI.out.box.lt
        have l3 := HI.out.res.lt
        have HR := Lib.hid hr
        clear HSM hr
        go_wp2_with fail
        have hfar := HI.out.far
        have E3 := HI.out.res.far (p := ⟨w.heap.size, 14, none⟩) (by show w.heap.size + 1 + 1 + 1 ≠ w.heap.size; omega) (.slice (some ⟨g, 0, none⟩) cs.length c4)
        have B4 := po_stored E3 rfl (.string p.name) (.bool p.forbid) (.int .i64 q1.op) (.string q1.ty) (.string q1.uid.ty) (.string q1.uid.id) (.int .i64 p.act.op) (.string p.act.ty) (.string p.act.uid.ty) (.string p.act.uid.id) (.int .i64 q2.op) (.string q2.ty) (.string q2.uid.ty) (.string q2.uid.id) (.slice (some ⟨g, 0, none⟩) cs.length c4)
        have kk := B4.cell
        refine bodyPost_ret (v := .tuple #[.agg #[.string p.name, .bool p.forbid, .int .i64 q1.op, .string q1.ty, .string q1.uid.ty, .string q1.uid.id, .int .i64 p.act.op, .string p.act.ty, .string p.act.uid.ty, .string p.act.uid.id, .int .i64 q2.op, .string q2.ty, .string q2.uid.ty, .string q2.uid.id, .slice (some ⟨g, 0, none⟩) cs.length c4], errV 0]) (by simp [results, Tryz.results5, go_sem, kk, errV_zero]) rfl ?_
        have hv := HV.out
        injection hv with h1 h2
        have hln : ds.length = cs.length := by have := congrArg List.length HR.out.same; simpa using this
        rw [← h1, ← h2, ← hln]
        refine ⟨some ⟨g, 0, none⟩, c4, ds, rfl, by rw [hln]; exact HQE.out, HQM.out, HP.out.trans HR.out.same.symm, ((HR.out.far (p := ⟨w.heap.size, 14, none⟩) (.inr (.inl rfl)) (by show g ≠ w.heap.size; omega) _).po_far (b := w.heap.size + 1 + 1 + 1) (.inr (.inr rfl)) (by omega) _ _ _ _ _ _ _ _ _ _ _ _ _ _ _).cds, ?_⟩
        exact po_below (HI.out.on.setCell (p := ⟨w.heap.size, 14, none⟩) (Nat.le_refl _) _) (by omega) _ _ _ _ _ _ _ _ _ _ _ _ _ _ _
end Go.Proofs.YtbommoefpekalaaGreat
