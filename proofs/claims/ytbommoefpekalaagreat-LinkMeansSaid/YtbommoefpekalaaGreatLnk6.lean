/-
  THE WALKS: link.Link, where something is wrong.
  THE WALKS: link.Link, where something is wrong.
-/
import Derived.Test.YtbommoefpekalaaGreatLnk3
namespace Go.Proofs.YtbommoefpekalaaGreat
open Go.RowKit Go.Sort

set_option maxRecDepth 100000 in
set_option maxHeartbeats 12800000 in
theorem link_bad1 (p : Po) (cs : List CdM) (A : Option Addr) (c : Nat) (who what : Ud) (w : World) (hp : p.conds = cs.map CdM.cd) (hz : PoZ p) (hc : CdsAt w w.heap.size A cs) (hl : cs.length ≤ 9223372036854775807) (hu1 : UdOk who) (hu2 : UdOk what) (hk : polErr p = 0) (hk1 : ¬ (fillP p.who who).2 = 0) :
    Calls Tryz.prog 5 #[.agg #[.string p.name, .bool p.forbid, .int .i64 p.who.op, .string p.who.ty, .string p.who.uid.ty, .string p.who.uid.id, .int .i64 p.act.op, .string p.act.ty, .string p.act.uid.ty, .string p.act.uid.id, .int .i64 p.what.op, .string p.what.ty, .string p.what.uid.ty, .string p.what.uid.id, .slice A cs.length c], .agg #[.string who.ty, .string who.id], .agg #[.string what.ty, .string what.id]] w fun e w' => PoBack w e w' (linkP p who what).1 (linkP p who what).2 := by
  obtain ⟨q, k, hq⟩ : ∃ q k, linkP p who what = (q, k) := ⟨_, _, rfl⟩
  rw [hq]
  have HP := Lib.hid hp
  have HC := Lib.hid hc
  have HK := Lib.hid (fun (W : World) h => pol_Check p cs A c W hp hz h hl)
  have HU1 := Lib.hid (fun W => filled_at p.who who W hu1)
  have HU2 := Lib.hid (fun W => filled_at p.what what W hu2)
  obtain ⟨q1, k1, hq1⟩ : ∃ q k, fillP p.who who = (q, k) := ⟨_, _, rfl⟩
  obtain ⟨q2, k2, hq2⟩ : ∃ q k, fillP p.what what = (q, k) := ⟨_, _, rfl⟩
  rw [linkP] at hq
  rw [hq1] at HU1 hk1
  rw [hq2] at HU2
  rw [hq1, hq2] at hq
  clear hp hc hz hu1 hu2 hq1 hq2
  rw [if_neg (by simp [hk]), if_pos (by simpa using hk1)] at hq
  have hk1 : ¬ k1 = 0 := hk1
  have HV := Lib.hid hq
  have tk : (polErr p != 0) = false := by simp [hk]
  have tk1 : (k1 != 0) = true := by simp [hk1]
  clear hk hq hk1
  go_enter Tryz.func5, Tryz.ntmps5
  go_wp2_with fail
  refine (HK.out _ (HC.out.later (by (repeat (first | assumption | exact Below.refl _ _ | apply Below.drew | apply below_drewN | (refine Below.alloc ?_ (by first | exact Nat.le_refl _ | omega | (simp; done) | (simp; omega)) _)))))).mono ?_
  rintro e w1 ⟨rfl, hb1⟩
  have b1 := blk5 hb1
  clear hb1
  have c0 := b1.box.cell
  have c1 := b1.u1.cell
  have c2 := b1.u2.cell
  have c3 := b1.res.cell
  simp only [zeroPo] at c3
  have f0 := b1.box.frozen
  have f3 := b1.res.frozen
  have l0 := b1.box.lt
  have l1 := b1.u1.lt
  have l2 := b1.u2.lt
  have l3 := b1.res.lt
  go_wp2_with fail
  refine (HU1.out _).mono ?_
  rintro e w2 ⟨rfl, hb2⟩
  have b2 := b1.later hb2
  clear c0 c1 c2 c3 f0 f3 l0 l1 l2 l3
  clear hb2
  have c0 := b2.box.cell
  have c1 := b2.u1.cell
  have c2 := b2.u2.cell
  have c3 := b2.res.cell
  simp only [zeroPo] at c3
  have f0 := b2.box.frozen
  have f3 := b2.res.frozen
  have l0 := b2.box.lt
  have l1 := b2.u1.lt
  have l2 := b2.u2.lt
  have l3 := b2.res.lt
  go_wp2_with fail
  have d1 := b2.put 2 (.int .i64 q1.op) (.string q1.ty) (.string q1.uid.ty) (.string q1.uid.id)
  have B4 := po_stored d1.res rfl (.string ⟨#[]⟩) (.bool false) (.int .i64 0) (.string ⟨#[]⟩) (.string ⟨#[]⟩) (.string ⟨#[]⟩) (.int .i64 0) (.string ⟨#[]⟩) (.string ⟨#[]⟩) (.string ⟨#[]⟩) (.int .i64 0) (.string ⟨#[]⟩) (.string ⟨#[]⟩) (.string ⟨#[]⟩) (.slice none 0 0)
  have kk := B4.cell
  refine bodyPost_ret (v := .tuple #[.agg zeroPo, errV (k1)]) (by simp [results, Tryz.results5, go_sem, kk, zeroPo]) rfl ?_
  have hv := HV.out
  injection hv with h1 h2
  rw [← h1, ← h2]
  exact PoBack.none rfl (po_below d1.on (by omega) _ _ _ _ _ _ _ _ _ _ _ _ _ _ _)
end Go.Proofs.YtbommoefpekalaaGreat
namespace Go.Proofs.YtbommoefpekalaaGreat
open Go.RowKit Go.Sort

set_option maxRecDepth 100000 in
set_option maxHeartbeats 12800000 in
theorem link_bad2 (p : Po) (cs : List CdM) (A : Option Addr) (c : Nat) (who what : Ud) (w : World) (hp : p.conds = cs.map CdM.cd) (hz : PoZ p) (hc : CdsAt w w.heap.size A cs) (hl : cs.length ≤ 9223372036854775807) (hu1 : UdOk who) (hu2 : UdOk what) (hk : polErr p = 0) (hk1 : (fillP p.who who).2 = 0) (hk2 : ¬ (fillP p.what what).2 = 0) :
    Calls Tryz.prog 5 #[.agg #[.string p.name, .bool p.forbid, .int .i64 p.who.op, .string p.who.ty, .string p.who.uid.ty, .string p.who.uid.id, .int .i64 p.act.op, .string p.act.ty, .string p.act.uid.ty, .string p.act.uid.id, .int .i64 p.what.op, .string p.what.ty, .string p.what.uid.ty, .string p.what.uid.id, .slice A cs.length c], .agg #[.string who.ty, .string who.id], .agg #[.string what.ty, .string what.id]] w fun e w' => PoBack w e w' (linkP p who what).1 (linkP p who what).2 := by
  obtain ⟨q, k, hq⟩ : ∃ q k, linkP p who what = (q, k) := ⟨_, _, rfl⟩
  rw [hq]
  have HP := Lib.hid hp
  have HC := Lib.hid hc
  have HK := Lib.hid (fun (W : World) h => pol_Check p cs A c W hp hz h hl)
  have HU1 := Lib.hid (fun W => filled_at p.who who W hu1)
  have HU2 := Lib.hid (fun W => filled_at p.what what W hu2)
  obtain ⟨q1, k1, hq1⟩ : ∃ q k, fillP p.who who = (q, k) := ⟨_, _, rfl⟩
  obtain ⟨q2, k2, hq2⟩ : ∃ q k, fillP p.what what = (q, k) := ⟨_, _, rfl⟩
  rw [linkP] at hq
  rw [hq1] at HU1 hk1
  rw [hq2] at HU2 hk2
  rw [hq1, hq2] at hq
  clear hp hc hz hu1 hu2 hq1 hq2
  have hk1 : k1 = 0 := hk1
  subst hk1
  rw [if_neg (by simp [hk]), if_neg (by simp), if_pos (by simpa using hk2)] at hq
  have hk2 : ¬ k2 = 0 := hk2
  have HV := Lib.hid hq
  have tk : (polErr p != 0) = false := by simp [hk]
  have tk2 : (k2 != 0) = true := by simp [hk2]
  clear hk hq hk2
  go_enter Tryz.func5, Tryz.ntmps5
  go_wp2_with fail
  refine (HK.out _ (HC.out.later (by (repeat (first | assumption | exact Below.refl _ _ | apply Below.drew | apply below_drewN | (refine Below.alloc ?_ (by first | exact Nat.le_refl _ | omega | (simp; done) | (simp; omega)) _)))))).mono ?_
  rintro e w1 ⟨rfl, hb1⟩
  have b1 := blk5 hb1
  clear hb1
  have c0 := b1.box.cell
  have c1 := b1.u1.cell
  have c2 := b1.u2.cell
  have c3 := b1.res.cell
  simp only [zeroPo] at c3
  have f0 := b1.box.frozen
  have f3 := b1.res.frozen
  have l0 := b1.box.lt
  have l1 := b1.u1.lt
  have l2 := b1.u2.lt
  have l3 := b1.res.lt
  go_wp2_with fail
  refine (HU1.out _).mono ?_
  rintro e w2 ⟨rfl, hb2⟩
  have b2 := b1.later hb2
  clear c0 c1 c2 c3 f0 f3 l0 l1 l2 l3
  clear hb2
  have c0 := b2.box.cell
  have c1 := b2.u1.cell
  have c2 := b2.u2.cell
  have c3 := b2.res.cell
  simp only [zeroPo] at c3
  have f0 := b2.box.frozen
  have f3 := b2.res.frozen
  have l0 := b2.box.lt
  have l1 := b2.u1.lt
  have l2 := b2.u2.lt
  have l3 := b2.res.lt
  go_wp2_with fail
  have d1 := b2.put 2 (.int .i64 q1.op) (.string q1.ty) (.string q1.uid.ty) (.string q1.uid.id)
  refine (HU2.out _).mono ?_
  rintro e w3 ⟨rfl, hb3⟩
  have b3 := d1.later hb3
  simp only [List.setIfInBounds_toArray, List.set_cons_zero, List.set_cons_succ] at b3
  clear c0 c1 c2 c3 f0 f3 l0 l1 l2 l3
  clear hb3 d1
  have c0 := b3.box.cell
  have c1 := b3.u1.cell
  have c2 := b3.u2.cell
  have c3 := b3.res.cell
  simp only [zeroPo] at c3
  have f0 := b3.box.frozen
  have f3 := b3.res.frozen
  have l0 := b3.box.lt
  have l1 := b3.u1.lt
  have l2 := b3.u2.lt
  have l3 := b3.res.lt
  go_wp2_with fail
  have d3 := b3.put 10 (.int .i64 q2.op) (.string q2.ty) (.string q2.uid.ty) (.string q2.uid.id)
  simp only [List.setIfInBounds_toArray, List.set_cons_zero, List.set_cons_succ] at d3
  have B4 := po_stored d3.res rfl (.string ⟨#[]⟩) (.bool false) (.int .i64 0) (.string ⟨#[]⟩) (.string ⟨#[]⟩) (.string ⟨#[]⟩) (.int .i64 0) (.string ⟨#[]⟩) (.string ⟨#[]⟩) (.string ⟨#[]⟩) (.int .i64 0) (.string ⟨#[]⟩) (.string ⟨#[]⟩) (.string ⟨#[]⟩) (.slice none 0 0)
  have kk := B4.cell
  refine bodyPost_ret (v := .tuple #[.agg zeroPo, errV (k2)]) (by simp [results, Tryz.results5, go_sem, kk, zeroPo]) rfl ?_
  have hv := HV.out
  injection hv with h1 h2
  rw [← h1, ← h2]
  exact PoBack.none rfl (po_below d3.on (by omega) _ _ _ _ _ _ _ _ _ _ _ _ _ _ _)
end Go.Proofs.YtbommoefpekalaaGreat
