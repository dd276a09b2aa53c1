/-
  THE WALKS: the reference's filled, Linked.
-/
import Derived.Test.YtbommoefpekalaaGreatDoorRp3
import Derived.Test.YtbommoefpekalaaGreatDoorLnk3
namespace Go.Proofs.YtbommoefpekalaaGreatDoor
open Go.RowKit Go.Sort

/-- A scope filled, whatever the uid is. -/
def fillQ (s : Sc) (u : Ud) : Sc := if slottedP s = true then ⟨s.op - 4, ⟨#[]⟩, u⟩ else s
theorem fillP_ok {s : Sc} {u : Ud} (h : slottedP s = true → udErr u = 0) : fillP s u = (fillQ s u, 0) := by
  unfold fillP fillQ
  by_cases hs : slottedP s = true
  · rw [if_pos hs, if_pos hs, if_pos (h hs)]
  · rw [if_neg hs, if_neg hs]
theorem fillP_bad {s : Sc} {u : Ud} (h : slottedP s = true) (hu : ¬ udErr u = 0) : (fillP s u).2 = udErr u := by
  unfold fillP
  rw [if_pos h, if_neg hu]
set_option maxRecDepth 100000 in
set_option maxHeartbeats 1600000 in
theorem r4_filled5 (s : Sc) (u : Ud) (w : World) (h0 : s.op = 5) :
    Calls Tryz.prog 39 #[.agg #[.int .i64 s.op, .string s.ty, .string s.uid.ty, .string s.uid.id], .agg #[.string u.ty, .string u.id]] w fun e w' => (∃ q, q = fillQ s u ∧ e = .returned (.agg #[.int .i64 q.op, .string q.ty, .string q.uid.ty, .string q.uid.id])) ∧ RowKit.Below w.heap.size w w' := by
  have HV : Hid (⟨1, ⟨#[]⟩, u⟩ = fillQ s u) := by show _ = _; unfold fillQ; rw [if_pos (by simp [slottedP, h0]), h0]; rfl
  rw [h0]
  go_enter Tryz.func39, Tryz.ntmps39
  go_wp2_with fail
  refine bodyPost_ret (v := .agg #[.int .i64 1, .string ⟨#[]⟩, .string u.ty, .string u.id]) (by simp [results, Tryz.results39, go_sem]) rfl ⟨⟨_, HV.out, rfl⟩, ?_⟩
  (repeat (first | assumption | exact Below.refl _ _ | apply Below.drew | apply below_drewN | (refine Below.alloc ?_ (by first | exact Nat.le_refl _ | omega | (simp; done) | (simp; omega)) _)))
set_option maxRecDepth 100000 in
set_option maxHeartbeats 1600000 in
theorem r4_filled6 (s : Sc) (u : Ud) (w : World) (h0 : s.op = 6) :
    Calls Tryz.prog 39 #[.agg #[.int .i64 s.op, .string s.ty, .string s.uid.ty, .string s.uid.id], .agg #[.string u.ty, .string u.id]] w fun e w' => (∃ q, q = fillQ s u ∧ e = .returned (.agg #[.int .i64 q.op, .string q.ty, .string q.uid.ty, .string q.uid.id])) ∧ RowKit.Below w.heap.size w w' := by
  have HV : Hid (⟨2, ⟨#[]⟩, u⟩ = fillQ s u) := by show _ = _; unfold fillQ; rw [if_pos (by simp [slottedP, h0]), h0]; rfl
  rw [h0]
  go_enter Tryz.func39, Tryz.ntmps39
  go_wp2_with fail
  refine bodyPost_ret (v := .agg #[.int .i64 2, .string ⟨#[]⟩, .string u.ty, .string u.id]) (by simp [results, Tryz.results39, go_sem]) rfl ⟨⟨_, HV.out, rfl⟩, ?_⟩
  (repeat (first | assumption | exact Below.refl _ _ | apply Below.drew | apply below_drewN | (refine Below.alloc ?_ (by first | exact Nat.le_refl _ | omega | (simp; done) | (simp; omega)) _)))
set_option maxRecDepth 100000 in
set_option maxHeartbeats 1600000 in
theorem r4_filled9 (s : Sc) (u : Ud) (w : World) (h5 : ¬ s.op = 5) (h6 : ¬ s.op = 6) :
    Calls Tryz.prog 39 #[.agg #[.int .i64 s.op, .string s.ty, .string s.uid.ty, .string s.uid.id], .agg #[.string u.ty, .string u.id]] w fun e w' => (∃ q, q = fillQ s u ∧ e = .returned (.agg #[.int .i64 q.op, .string q.ty, .string q.uid.ty, .string q.uid.id])) ∧ RowKit.Below w.heap.size w w' := by
  have HV : Hid (s = fillQ s u) := by show _ = _; unfold fillQ; rw [if_neg (by simp [slottedP, h5, h6])]
  have t5 : (s.op == 5) = false := by simp [h5]
  have t6 : (s.op == 6) = false := by simp [h6]
  clear h5 h6
  go_enter Tryz.func39, Tryz.ntmps39
  go_wp2_with fail
  refine bodyPost_ret (v := .agg #[.int .i64 s.op, .string s.ty, .string s.uid.ty, .string s.uid.id]) (by simp [results, Tryz.results39, go_sem]) rfl ⟨⟨_, HV.out, rfl⟩, ?_⟩
  (repeat (first | assumption | exact Below.refl _ _ | apply Below.drew | apply below_drewN | (refine Below.alloc ?_ (by first | exact Nat.le_refl _ | omega | (simp; done) | (simp; omega)) _)))
theorem r4_filled (s : Sc) (u : Ud) (w : World) :
    Calls Tryz.prog 39 #[.agg #[.int .i64 s.op, .string s.ty, .string s.uid.ty, .string s.uid.id], .agg #[.string u.ty, .string u.id]] w fun e w' => e = .returned (.agg #[.int .i64 (fillQ s u).op, .string (fillQ s u).ty, .string (fillQ s u).uid.ty, .string (fillQ s u).uid.id]) ∧ RowKit.Below w.heap.size w w' := by
  have h : Calls Tryz.prog 39 #[.agg #[.int .i64 s.op, .string s.ty, .string s.uid.ty, .string s.uid.id], .agg #[.string u.ty, .string u.id]] w fun e w' => (∃ q, q = fillQ s u ∧ e = .returned (.agg #[.int .i64 q.op, .string q.ty, .string q.uid.ty, .string q.uid.id])) ∧ RowKit.Below w.heap.size w w' := by
    by_cases h5 : s.op = 5
    · exact r4_filled5 s u w h5
    by_cases h6 : s.op = 6
    · exact r4_filled6 s u w h6
    exact r4_filled9 s u w h5 h6
  refine h.mono ?_
  rintro e w' ⟨⟨q, rfl, he⟩, hb⟩
  exact ⟨he, hb⟩
/-- A policy that a call hands back, and the number of an error. -/
def PoRet (w : World) (r : Ending) (w' : World) (q : Po) (k : Int) : Prop :=
  ∃ A c cs, r = .returned (.tuple #[.agg #[.string q.name, .bool q.forbid, .int .i64 q.who.op, .string q.who.ty, .string q.who.uid.ty, .string q.who.uid.id, .int .i64 q.act.op, .string q.act.ty, .string q.act.uid.ty, .string q.act.uid.id, .int .i64 q.what.op, .string q.what.ty, .string q.what.uid.ty, .string q.what.uid.id, .slice A cs.length c], .int .i64 k]) ∧ cs.length ≤ c ∧ c ≤ 9223372036854775807 ∧ q.conds = cs.map CdM.cd ∧ CdsAt w' w'.heap.size A cs ∧ RowKit.Below w.heap.size w w'
theorem PoRet.none {w W : World} {A : Option Addr} {k : Int} (hA : A = Option.none) (h : RowKit.Below w.heap.size w W) : PoRet w (.returned (.tuple #[.agg #[.string po0.name, .bool po0.forbid, .int .i64 po0.who.op, .string po0.who.ty, .string po0.who.uid.ty, .string po0.who.uid.id, .int .i64 po0.act.op, .string po0.act.ty, .string po0.act.uid.ty, .string po0.act.uid.id, .int .i64 po0.what.op, .string po0.what.ty, .string po0.what.uid.ty, .string po0.what.uid.id, .slice A 0 0], .int .i64 k])) W po0 k := by
  subst hA
  exact ⟨Option.none, 0, [], rfl, Nat.le_refl _, by omega, rfl, ⟨SlG.nil _ _ _, by simp⟩, h⟩
theorem LBox.store {w W : World} {V : Array Value} {who what : Ud} (h : LBox w V who what W) (x0 x1 x2 x3 x4 x5 x6 x7 x8 x9 x10 x11 x12 x13 x14 : Value) :
    Blk (((((((((((((((W.setCell ⟨w.heap.size + 1 + 1 + 1, 0, none⟩ x0).setCell ⟨w.heap.size + 1 + 1 + 1, 1, none⟩ x1).setCell ⟨w.heap.size + 1 + 1 + 1, 2, none⟩ x2).setCell ⟨w.heap.size + 1 + 1 + 1, 3, none⟩ x3).setCell ⟨w.heap.size + 1 + 1 + 1, 4, none⟩ x4).setCell ⟨w.heap.size + 1 + 1 + 1, 5, none⟩ x5).setCell ⟨w.heap.size + 1 + 1 + 1, 6, none⟩ x6).setCell ⟨w.heap.size + 1 + 1 + 1, 7, none⟩ x7).setCell ⟨w.heap.size + 1 + 1 + 1, 8, none⟩ x8).setCell ⟨w.heap.size + 1 + 1 + 1, 9, none⟩ x9).setCell ⟨w.heap.size + 1 + 1 + 1, 10, none⟩ x10).setCell ⟨w.heap.size + 1 + 1 + 1, 11, none⟩ x11).setCell ⟨w.heap.size + 1 + 1 + 1, 12, none⟩ x12).setCell ⟨w.heap.size + 1 + 1 + 1, 13, none⟩ x13).setCell ⟨w.heap.size + 1 + 1 + 1, 14, none⟩ x14) (w.heap.size + 1 + 1 + 1) 45 #[x0, x1, x2, x3, x4, x5, x6, x7, x8, x9, x10, x11, x12, x13, x14] := po_stored h.res rfl _ _ _ _ _ _ _ _ _ _ _ _ _ _ _
set_option maxRecDepth 100000 in
set_option maxHeartbeats 12800000 in
theorem r4_Linked_p (p : Po) (cs : List CdM) (A : Option Addr) (c : Nat) (who what : Ud) (w : World) (hp : p.conds = cs.map CdM.cd) (hz : PoZ p) (hc : CdsAt w w.heap.size A cs) (hl : cs.length ≤ c) (hcm : c ≤ 9223372036854775807) (hu1 : UdOk who) (hu2 : UdOk what) (hk : ¬ polErr p = 0) :
    Calls Tryz.prog 17 #[.agg #[.string p.name, .bool p.forbid, .int .i64 p.who.op, .string p.who.ty, .string p.who.uid.ty, .string p.who.uid.id, .int .i64 p.act.op, .string p.act.ty, .string p.act.uid.ty, .string p.act.uid.id, .int .i64 p.what.op, .string p.what.ty, .string p.what.uid.ty, .string p.what.uid.id, .slice A cs.length c], .agg #[.string who.ty, .string who.id], .agg #[.string what.ty, .string what.id]] w fun e w' => PoRet w e w' (linkP p who what).1 (linkP p who what).2 := by
  have HV : Hid (linkP p who what = (po0, polErr p)) := by show _ = _; rw [linkP, if_pos hk]
  have HP := Lib.hid hp
  have HC := Lib.hid hc
  have HK := Lib.hid (fun (W : World) h => r4_PolicyFault p cs A c W hp hz h (by omega))
  have HW1 := Lib.hid (fun W => r1_ud who W hu1)
  have HW2 := Lib.hid (fun W => r1_ud what W hu2)
  have HS1 := Lib.hid (fun W => r4_slotted p.who W)
  have HS2 := Lib.hid (fun W => r4_slotted p.what W)
  have HF1 := Lib.hid (fun W => r4_filled p.who who W)
  have HF2 := Lib.hid (fun W => r4_filled p.what what W)
  have HL := Lib.hid hl
  rw [HV.out]
  clear hp hz hc hu1 hu2
  have tu : (polErr p == 0) = false := by simp [hk]
  have tv : (polErr p != 0) = true := by simp [hk]
  clear hk
  go_enter Tryz.func17, Tryz.ntmps17
  go_wp2_with fail
  refine (HK.out _ (HC.out.later (by (repeat (first | assumption | exact Below.refl _ _ | apply Below.drew | apply below_drewN | (refine Below.alloc ?_ (by first | exact Nat.le_refl _ | omega | (simp; done) | (simp; omega)) _)))))).mono ?_
  rintro e w1 ⟨rfl, hb1⟩
  have b1 := blk5 hb1
  clear hb1
  have c0 := b1.box.cell
  have c1 := b1.u1.cell
  have c2 := b1.u2.cell
  have c3 := b1.res.cell
  simp only [zeroPo] at c3
  have f0 := b1.box.frozen
  have f3 := b1.res.frozen
  have l0 := b1.box.lt
  have l1 := b1.u1.lt
  have l2 := b1.u2.lt
  have l3 := b1.res.lt
  go_wp2_with fail
  have B4 := b1.store (.string ⟨#[]⟩) (.bool false) (.int .i64 0) (.string ⟨#[]⟩) (.string ⟨#[]⟩) (.string ⟨#[]⟩) (.int .i64 0) (.string ⟨#[]⟩) (.string ⟨#[]⟩) (.string ⟨#[]⟩) (.int .i64 0) (.string ⟨#[]⟩) (.string ⟨#[]⟩) (.string ⟨#[]⟩) (.slice none 0 0)
  have kk := B4.cell
  refine bodyPost_ret (v := .tuple #[.agg zeroPo, .int .i64 (polErr p)]) (by simp [results, Tryz.results17, go_sem, kk, zeroPo]) rfl ?_
  exact PoRet.none rfl (po_below b1.on (by omega) _ _ _ _ _ _ _ _ _ _ _ _ _ _ _)
set_option maxRecDepth 100000 in
set_option maxHeartbeats 12800000 in
theorem r4_Linked_b (p : Po) (cs : List CdM) (A : Option Addr) (c : Nat) (who what : Ud) (w : World) (hp : p.conds = cs.map CdM.cd) (hz : PoZ p) (hc : CdsAt w w.heap.size A cs) (hl : cs.length ≤ c) (hcm : c ≤ 9223372036854775807) (hu1 : UdOk who) (hu2 : UdOk what) (hk : polErr p = 0) (h1 : slottedP p.who = true) (u1 : ¬ udErr who = 0) :
    Calls Tryz.prog 17 #[.agg #[.string p.name, .bool p.forbid, .int .i64 p.who.op, .string p.who.ty, .string p.who.uid.ty, .string p.who.uid.id, .int .i64 p.act.op, .string p.act.ty, .string p.act.uid.ty, .string p.act.uid.id, .int .i64 p.what.op, .string p.what.ty, .string p.what.uid.ty, .string p.what.uid.id, .slice A cs.length c], .agg #[.string who.ty, .string who.id], .agg #[.string what.ty, .string what.id]] w fun e w' => PoRet w e w' (linkP p who what).1 (linkP p who what).2 := by
  have HV : Hid (linkP p who what = (po0, udErr who)) := by show _ = _; rw [linkP, if_neg (by simp [hk]), if_pos (by rw [fillP_bad h1 u1]; exact u1), fillP_bad h1 u1]
  have HP := Lib.hid hp
  have HC := Lib.hid hc
  have HK := Lib.hid (fun (W : World) h => r4_PolicyFault p cs A c W hp hz h (by omega))
  have HW1 := Lib.hid (fun W => r1_ud who W hu1)
  have HW2 := Lib.hid (fun W => r1_ud what W hu2)
  have HS1 := Lib.hid (fun W => r4_slotted p.who W)
  have HS2 := Lib.hid (fun W => r4_slotted p.what W)
  have HF1 := Lib.hid (fun W => r4_filled p.who who W)
  have HF2 := Lib.hid (fun W => r4_filled p.what what W)
  have HL := Lib.hid hl
  rw [HV.out]
  clear hp hz hc hu1 hu2
  rw [hk] at HK
  rw [h1] at HS1
  have tu : (udErr who == 0) = false := by simp [u1]
  have tv : (udErr who != 0) = true := by simp [u1]
  clear hk h1 u1
  go_enter Tryz.func17, Tryz.ntmps17
  go_wp2_with fail
  refine (HK.out _ (HC.out.later (by (repeat (first | assumption | exact Below.refl _ _ | apply Below.drew | apply below_drewN | (refine Below.alloc ?_ (by first | exact Nat.le_refl _ | omega | (simp; done) | (simp; omega)) _)))))).mono ?_
  rintro e w1 ⟨rfl, hb1⟩
  have b1 := blk5 hb1
  clear hb1
  have c0 := b1.box.cell
  have c1 := b1.u1.cell
  have c2 := b1.u2.cell
  have c3 := b1.res.cell
  simp only [zeroPo] at c3
  have f0 := b1.box.frozen
  have f3 := b1.res.frozen
  have l0 := b1.box.lt
  have l1 := b1.u1.lt
  have l2 := b1.u2.lt
  have l3 := b1.res.lt
  go_wp2_with fail
  refine (HS1.out _).mono ?_
  rintro e w2 ⟨rfl, hb2⟩
  have b2 := b1.later hb2
  clear c0 c1 c2 c3 f0 f3 l0 l1 l2 l3
  clear hb2
  have c0 := b2.box.cell
  have c1 := b2.u1.cell
  have c2 := b2.u2.cell
  have c3 := b2.res.cell
  simp only [zeroPo] at c3
  have f0 := b2.box.frozen
  have f3 := b2.res.frozen
  have l0 := b2.box.lt
  have l1 := b2.u1.lt
  have l2 := b2.u2.lt
  have l3 := b2.res.lt
  go_wp2_with fail
  refine (HW1.out _).mono ?_
  rintro e w3 ⟨rfl, hb3⟩
  have b3 := b2.later hb3
  clear c0 c1 c2 c3 f0 f3 l0 l1 l2 l3
  clear hb3
  have c0 := b3.box.cell
  have c1 := b3.u1.cell
  have c2 := b3.u2.cell
  have c3 := b3.res.cell
  simp only [zeroPo] at c3
  have f0 := b3.box.frozen
  have f3 := b3.res.frozen
  have l0 := b3.box.lt
  have l1 := b3.u1.lt
  have l2 := b3.u2.lt
  have l3 := b3.res.lt
  go_wp2_with fail
  have B4 := b3.store (.string ⟨#[]⟩) (.bool false) (.int .i64 0) (.string ⟨#[]⟩) (.string ⟨#[]⟩) (.string ⟨#[]⟩) (.int .i64 0) (.string ⟨#[]⟩) (.string ⟨#[]⟩) (.string ⟨#[]⟩) (.int .i64 0) (.string ⟨#[]⟩) (.string ⟨#[]⟩) (.string ⟨#[]⟩) (.slice none 0 0)
  have kk := B4.cell
  refine bodyPost_ret (v := .tuple #[.agg zeroPo, .int .i64 (udErr who)]) (by simp [results, Tryz.results17, go_sem, kk, zeroPo]) rfl ?_
  exact PoRet.none rfl (po_below b3.on (by omega) _ _ _ _ _ _ _ _ _ _ _ _ _ _ _)
set_option maxRecDepth 100000 in
set_option maxHeartbeats 12800000 in
theorem r4_Linked_ff (p : Po) (cs : List CdM) (A : Option Addr) (c : Nat) (who what : Ud) (w : World) (hp : p.conds = cs.map CdM.cd) (hz : PoZ p) (hc : CdsAt w w.heap.size A cs) (hl : cs.length ≤ c) (hcm : c ≤ 9223372036854775807) (hu1 : UdOk who) (hu2 : UdOk what) (hk : polErr p = 0) (h1 : slottedP p.who = false) (h2 : slottedP p.what = false) :
    Calls Tryz.prog 17 #[.agg #[.string p.name, .bool p.forbid, .int .i64 p.who.op, .string p.who.ty, .string p.who.uid.ty, .string p.who.uid.id, .int .i64 p.act.op, .string p.act.ty, .string p.act.uid.ty, .string p.act.uid.id, .int .i64 p.what.op, .string p.what.ty, .string p.what.uid.ty, .string p.what.uid.id, .slice A cs.length c], .agg #[.string who.ty, .string who.id], .agg #[.string what.ty, .string what.id]] w fun e w' => PoRet w e w' (linkP p who what).1 (linkP p who what).2 := by
  have HV : Hid (linkP p who what = (⟨p.name, p.forbid, fillQ p.who who, p.act, fillQ p.what what, p.conds⟩, 0)) := by
    show _ = _
    have e1 := fillP_ok (s := p.who) (u := who) (by rw [h1]; intro h; cases h)
    have e2 := fillP_ok (s := p.what) (u := what) (by rw [h2]; intro h; cases h)
    rw [linkP, if_neg (by simp [hk]), e1, e2]; rfl
  have HP := Lib.hid hp
  have HC := Lib.hid hc
  have HK := Lib.hid (fun (W : World) h => r4_PolicyFault p cs A c W hp hz h (by omega))
  have HW1 := Lib.hid (fun W => r1_ud who W hu1)
  have HW2 := Lib.hid (fun W => r1_ud what W hu2)
  have HS1 := Lib.hid (fun W => r4_slotted p.who W)
  have HS2 := Lib.hid (fun W => r4_slotted p.what W)
  have HF1 := Lib.hid (fun W => r4_filled p.who who W)
  have HF2 := Lib.hid (fun W => r4_filled p.what what W)
  have HL := Lib.hid hl
  rw [HV.out]
  clear hp hz hc hu1 hu2
  rw [hk] at HK
  rw [h1] at HS1
  rw [h2] at HS2
  clear hk h1 h2
  go_enter Tryz.func17, Tryz.ntmps17
  go_wp2_with fail
  refine (HK.out _ (HC.out.later (by (repeat (first | assumption | exact Below.refl _ _ | apply Below.drew | apply below_drewN | (refine Below.alloc ?_ (by first | exact Nat.le_refl _ | omega | (simp; done) | (simp; omega)) _)))))).mono ?_
  rintro e w1 ⟨rfl, hb1⟩
  have b1 := blk5 hb1
  clear hb1
  have c0 := b1.box.cell
  have c1 := b1.u1.cell
  have c2 := b1.u2.cell
  have c3 := b1.res.cell
  simp only [zeroPo] at c3
  have f0 := b1.box.frozen
  have f3 := b1.res.frozen
  have l0 := b1.box.lt
  have l1 := b1.u1.lt
  have l2 := b1.u2.lt
  have l3 := b1.res.lt
  go_wp2_with fail
  refine (HS1.out _).mono ?_
  rintro e w2 ⟨rfl, hb2⟩
  have b2 := b1.later hb2
  clear c0 c1 c2 c3 f0 f3 l0 l1 l2 l3
  clear hb2
  have c0 := b2.box.cell
  have c1 := b2.u1.cell
  have c2 := b2.u2.cell
  have c3 := b2.res.cell
  simp only [zeroPo] at c3
  have f0 := b2.box.frozen
  have f3 := b2.res.frozen
  have l0 := b2.box.lt
  have l1 := b2.u1.lt
  have l2 := b2.u2.lt
  have l3 := b2.res.lt
  go_wp2_with fail
  refine (HS2.out _).mono ?_
  rintro e w3 ⟨rfl, hb3⟩
  have b3 := b2.later hb3
  clear c0 c1 c2 c3 f0 f3 l0 l1 l2 l3
  clear hb3
  have c0 := b3.box.cell
  have c1 := b3.u1.cell
  have c2 := b3.u2.cell
  have c3 := b3.res.cell
  simp only [zeroPo] at c3
  have f0 := b3.box.frozen
  have f3 := b3.res.frozen
  have l0 := b3.box.lt
  have l1 := b3.u1.lt
  have l2 := b3.u2.lt
  have l3 := b3.res.lt
  go_wp2_with fail
  refine (HF1.out _).mono ?_
  rintro e w4 ⟨rfl, hb4⟩
  have b4 := (b3.later hb4).put 2 (.int .i64 (fillQ p.who who).op) (.string (fillQ p.who who).ty) (.string (fillQ p.who who).uid.ty) (.string (fillQ p.who who).uid.id)
  have a0 := (b3.later hb4).box.cell
  have a1 := (b3.later hb4).u1.cell
  have a2 := (b3.later hb4).u2.cell
  have a3 := (b3.later hb4).res.cell
  simp only [zeroPo] at a3
  have g0 := (b3.later hb4).box.frozen
  have g3 := (b3.later hb4).res.frozen
  have k0 := (b3.later hb4).box.lt
  have k1 := (b3.later hb4).u1.lt
  have k2 := (b3.later hb4).u2.lt
  have k3 := (b3.later hb4).res.lt
  simp only [List.setIfInBounds_toArray, List.set_cons_zero, List.set_cons_succ] at b4 a0
  clear c0 c1 c2 c3 f0 f3 l0 l1 l2 l3
  clear hb4
  go_wp2_with fail
  clear a0 a1 a2 a3 g0 g3 k0 k1 k2 k3
  have c0 := b4.box.cell
  have c1 := b4.u1.cell
  have c2 := b4.u2.cell
  have c3 := b4.res.cell
  simp only [zeroPo] at c3
  have f0 := b4.box.frozen
  have f3 := b4.res.frozen
  have l0 := b4.box.lt
  have l1 := b4.u1.lt
  have l2 := b4.u2.lt
  have l3 := b4.res.lt
  refine (HF2.out _).mono ?_
  rintro e w5 ⟨rfl, hb5⟩
  have b5 := (b4.later hb5).put 10 (.int .i64 (fillQ p.what what).op) (.string (fillQ p.what what).ty) (.string (fillQ p.what what).uid.ty) (.string (fillQ p.what what).uid.id)
  have a0 := (b4.later hb5).box.cell
  have a1 := (b4.later hb5).u1.cell
  have a2 := (b4.later hb5).u2.cell
  have a3 := (b4.later hb5).res.cell
  simp only [zeroPo] at a3
  have g0 := (b4.later hb5).box.frozen
  have g3 := (b4.later hb5).res.frozen
  have k0 := (b4.later hb5).box.lt
  have k1 := (b4.later hb5).u1.lt
  have k2 := (b4.later hb5).u2.lt
  have k3 := (b4.later hb5).res.lt
  simp only [List.setIfInBounds_toArray, List.set_cons_zero, List.set_cons_succ] at b5 a0
  clear c0 c1 c2 c3 f0 f3 l0 l1 l2 l3
  clear hb5
  go_wp2_with fail
  clear a0 a1 a2 a3 g0 g3 k0 k1 k2 k3
  have B4 := b5.store (.string p.name) (.bool p.forbid) (.int .i64 (fillQ p.who who).op) (.string (fillQ p.who who).ty) (.string (fillQ p.who who).uid.ty) (.string (fillQ p.who who).uid.id) (.int .i64 p.act.op) (.string p.act.ty) (.string p.act.uid.ty) (.string p.act.uid.id) (.int .i64 (fillQ p.what what).op) (.string (fillQ p.what what).ty) (.string (fillQ p.what what).uid.ty) (.string (fillQ p.what what).uid.id) (.slice A cs.length c)
  have kk := B4.cell
  refine bodyPost_ret (v := .tuple #[.agg #[.string p.name, .bool p.forbid, .int .i64 (fillQ p.who who).op, .string (fillQ p.who who).ty, .string (fillQ p.who who).uid.ty, .string (fillQ p.who who).uid.id, .int .i64 p.act.op, .string p.act.ty, .string p.act.uid.ty, .string p.act.uid.id, .int .i64 (fillQ p.what what).op, .string (fillQ p.what what).ty, .string (fillQ p.what what).uid.ty, .string (fillQ p.what what).uid.id, .slice A cs.length c], .int .i64 0]) (by simp [results, Tryz.results17, go_sem, kk]) rfl ?_
  have hbe := po_below b5.on (b := w.heap.size + 1 + 1 + 1) (by omega) (.string p.name) (.bool p.forbid) (.int .i64 (fillQ p.who who).op) (.string (fillQ p.who who).ty) (.string (fillQ p.who who).uid.ty) (.string (fillQ p.who who).uid.id) (.int .i64 p.act.op) (.string p.act.ty) (.string p.act.uid.ty) (.string p.act.uid.id) (.int .i64 (fillQ p.what what).op) (.string (fillQ p.what what).ty) (.string (fillQ p.what what).uid.ty) (.string (fillQ p.what what).uid.id) (.slice A cs.length c)
  exact ⟨A, c, cs, rfl, HL.out, hcm, HP.out, HC.out.later hbe, hbe⟩
set_option maxRecDepth 100000 in
set_option maxHeartbeats 12800000 in
theorem r4_Linked_fo (p : Po) (cs : List CdM) (A : Option Addr) (c : Nat) (who what : Ud) (w : World) (hp : p.conds = cs.map CdM.cd) (hz : PoZ p) (hc : CdsAt w w.heap.size A cs) (hl : cs.length ≤ c) (hcm : c ≤ 9223372036854775807) (hu1 : UdOk who) (hu2 : UdOk what) (hk : polErr p = 0) (h1 : slottedP p.who = false) (h2 : slottedP p.what = true) (u2 : udErr what = 0) :
    Calls Tryz.prog 17 #[.agg #[.string p.name, .bool p.forbid, .int .i64 p.who.op, .string p.who.ty, .string p.who.uid.ty, .string p.who.uid.id, .int .i64 p.act.op, .string p.act.ty, .string p.act.uid.ty, .string p.act.uid.id, .int .i64 p.what.op, .string p.what.ty, .string p.what.uid.ty, .string p.what.uid.id, .slice A cs.length c], .agg #[.string who.ty, .string who.id], .agg #[.string what.ty, .string what.id]] w fun e w' => PoRet w e w' (linkP p who what).1 (linkP p who what).2 := by
  have HV : Hid (linkP p who what = (⟨p.name, p.forbid, fillQ p.who who, p.act, fillQ p.what what, p.conds⟩, 0)) := by
    show _ = _
    have e1 := fillP_ok (s := p.who) (u := who) (by rw [h1]; intro h; cases h)
    have e2 := fillP_ok (s := p.what) (u := what) (fun _ => u2)
    rw [linkP, if_neg (by simp [hk]), e1, e2]; rfl
  have HP := Lib.hid hp
  have HC := Lib.hid hc
  have HK := Lib.hid (fun (W : World) h => r4_PolicyFault p cs A c W hp hz h (by omega))
  have HW1 := Lib.hid (fun W => r1_ud who W hu1)
  have HW2 := Lib.hid (fun W => r1_ud what W hu2)
  have HS1 := Lib.hid (fun W => r4_slotted p.who W)
  have HS2 := Lib.hid (fun W => r4_slotted p.what W)
  have HF1 := Lib.hid (fun W => r4_filled p.who who W)
  have HF2 := Lib.hid (fun W => r4_filled p.what what W)
  have HL := Lib.hid hl
  rw [HV.out]
  clear hp hz hc hu1 hu2
  rw [hk] at HK
  rw [h1] at HS1
  rw [h2] at HS2
  rw [u2] at HW2
  clear hk h1 h2 u2
  go_enter Tryz.func17, Tryz.ntmps17
  go_wp2_with fail
  refine (HK.out _ (HC.out.later (by (repeat (first | assumption | exact Below.refl _ _ | apply Below.drew | apply below_drewN | (refine Below.alloc ?_ (by first | exact Nat.le_refl _ | omega | (simp; done) | (simp; omega)) _)))))).mono ?_
  rintro e w1 ⟨rfl, hb1⟩
  have b1 := blk5 hb1
  clear hb1
  have c0 := b1.box.cell
  have c1 := b1.u1.cell
  have c2 := b1.u2.cell
  have c3 := b1.res.cell
  simp only [zeroPo] at c3
  have f0 := b1.box.frozen
  have f3 := b1.res.frozen
  have l0 := b1.box.lt
  have l1 := b1.u1.lt
  have l2 := b1.u2.lt
  have l3 := b1.res.lt
  go_wp2_with fail
  refine (HS1.out _).mono ?_
  rintro e w2 ⟨rfl, hb2⟩
  have b2 := b1.later hb2
  clear c0 c1 c2 c3 f0 f3 l0 l1 l2 l3
  clear hb2
  have c0 := b2.box.cell
  have c1 := b2.u1.cell
  have c2 := b2.u2.cell
  have c3 := b2.res.cell
  simp only [zeroPo] at c3
  have f0 := b2.box.frozen
  have f3 := b2.res.frozen
  have l0 := b2.box.lt
  have l1 := b2.u1.lt
  have l2 := b2.u2.lt
  have l3 := b2.res.lt
  go_wp2_with fail
  refine (HS2.out _).mono ?_
  rintro e w3 ⟨rfl, hb3⟩
  have b3 := b2.later hb3
  clear c0 c1 c2 c3 f0 f3 l0 l1 l2 l3
  clear hb3
  have c0 := b3.box.cell
  have c1 := b3.u1.cell
  have c2 := b3.u2.cell
  have c3 := b3.res.cell
  simp only [zeroPo] at c3
  have f0 := b3.box.frozen
  have f3 := b3.res.frozen
  have l0 := b3.box.lt
  have l1 := b3.u1.lt
  have l2 := b3.u2.lt
  have l3 := b3.res.lt
  go_wp2_with fail
  refine (HW2.out _).mono ?_
  rintro e w4 ⟨rfl, hb4⟩
  have b4 := b3.later hb4
  clear c0 c1 c2 c3 f0 f3 l0 l1 l2 l3
  clear hb4
  have c0 := b4.box.cell
  have c1 := b4.u1.cell
  have c2 := b4.u2.cell
  have c3 := b4.res.cell
  simp only [zeroPo] at c3
  have f0 := b4.box.frozen
  have f3 := b4.res.frozen
  have l0 := b4.box.lt
  have l1 := b4.u1.lt
  have l2 := b4.u2.lt
  have l3 := b4.res.lt
  go_wp2_with fail
  refine (HF1.out _).mono ?_
  rintro e w5 ⟨rfl, hb5⟩
  have b5 := (b4.later hb5).put 2 (.int .i64 (fillQ p.who who).op) (.string (fillQ p.who who).ty) (.string (fillQ p.who who).uid.ty) (.string (fillQ p.who who).uid.id)
  have a0 := (b4.later hb5).box.cell
  have a1 := (b4.later hb5).u1.cell
  have a2 := (b4.later hb5).u2.cell
  have a3 := (b4.later hb5).res.cell
  simp only [zeroPo] at a3
  have g0 := (b4.later hb5).box.frozen
  have g3 := (b4.later hb5).res.frozen
  have k0 := (b4.later hb5).box.lt
  have k1 := (b4.later hb5).u1.lt
  have k2 := (b4.later hb5).u2.lt
  have k3 := (b4.later hb5).res.lt
  simp only [List.setIfInBounds_toArray, List.set_cons_zero, List.set_cons_succ] at b5 a0
  clear c0 c1 c2 c3 f0 f3 l0 l1 l2 l3
  clear hb5
  go_wp2_with fail
  clear a0 a1 a2 a3 g0 g3 k0 k1 k2 k3
  have c0 := b5.box.cell
  have c1 := b5.u1.cell
  have c2 := b5.u2.cell
  have c3 := b5.res.cell
  simp only [zeroPo] at c3
  have f0 := b5.box.frozen
  have f3 := b5.res.frozen
  have l0 := b5.box.lt
  have l1 := b5.u1.lt
  have l2 := b5.u2.lt
  have l3 := b5.res.lt
  refine (HF2.out _).mono ?_
  rintro e w6 ⟨rfl, hb6⟩
  have b6 := (b5.later hb6).put 10 (.int .i64 (fillQ p.what what).op) (.string (fillQ p.what what).ty) (.string (fillQ p.what what).uid.ty) (.string (fillQ p.what what).uid.id)
  have a0 := (b5.later hb6).box.cell
  have a1 := (b5.later hb6).u1.cell
  have a2 := (b5.later hb6).u2.cell
  have a3 := (b5.later hb6).res.cell
  simp only [zeroPo] at a3
  have g0 := (b5.later hb6).box.frozen
  have g3 := (b5.later hb6).res.frozen
  have k0 := (b5.later hb6).box.lt
  have k1 := (b5.later hb6).u1.lt
  have k2 := (b5.later hb6).u2.lt
  have k3 := (b5.later hb6).res.lt
  simp only [List.setIfInBounds_toArray, List.set_cons_zero, List.set_cons_succ] at b6 a0
  clear c0 c1 c2 c3 f0 f3 l0 l1 l2 l3
  clear hb6
  go_wp2_with fail
  clear a0 a1 a2 a3 g0 g3 k0 k1 k2 k3
  have B4 := b6.store (.string p.name) (.bool p.forbid) (.int .i64 (fillQ p.who who).op) (.string (fillQ p.who who).ty) (.string (fillQ p.who who).uid.ty) (.string (fillQ p.who who).uid.id) (.int .i64 p.act.op) (.string p.act.ty) (.string p.act.uid.ty) (.string p.act.uid.id) (.int .i64 (fillQ p.what what).op) (.string (fillQ p.what what).ty) (.string (fillQ p.what what).uid.ty) (.string (fillQ p.what what).uid.id) (.slice A cs.length c)
  have kk := B4.cell
  refine bodyPost_ret (v := .tuple #[.agg #[.string p.name, .bool p.forbid, .int .i64 (fillQ p.who who).op, .string (fillQ p.who who).ty, .string (fillQ p.who who).uid.ty, .string (fillQ p.who who).uid.id, .int .i64 p.act.op, .string p.act.ty, .string p.act.uid.ty, .string p.act.uid.id, .int .i64 (fillQ p.what what).op, .string (fillQ p.what what).ty, .string (fillQ p.what what).uid.ty, .string (fillQ p.what what).uid.id, .slice A cs.length c], .int .i64 0]) (by simp [results, Tryz.results17, go_sem, kk]) rfl ?_
  have hbe := po_below b6.on (b := w.heap.size + 1 + 1 + 1) (by omega) (.string p.name) (.bool p.forbid) (.int .i64 (fillQ p.who who).op) (.string (fillQ p.who who).ty) (.string (fillQ p.who who).uid.ty) (.string (fillQ p.who who).uid.id) (.int .i64 p.act.op) (.string p.act.ty) (.string p.act.uid.ty) (.string p.act.uid.id) (.int .i64 (fillQ p.what what).op) (.string (fillQ p.what what).ty) (.string (fillQ p.what what).uid.ty) (.string (fillQ p.what what).uid.id) (.slice A cs.length c)
  exact ⟨A, c, cs, rfl, HL.out, hcm, HP.out, HC.out.later hbe, hbe⟩
set_option maxRecDepth 100000 in
set_option maxHeartbeats 12800000 in
theorem r4_Linked_fb (p : Po) (cs : List CdM) (A : Option Addr) (c : Nat) (who what : Ud) (w : World) (hp : p.conds = cs.map CdM.cd) (hz : PoZ p) (hc : CdsAt w w.heap.size A cs) (hl : cs.length ≤ c) (hcm : c ≤ 9223372036854775807) (hu1 : UdOk who) (hu2 : UdOk what) (hk : polErr p = 0) (h1 : slottedP p.who = false) (h2 : slottedP p.what = true) (u2 : ¬ udErr what = 0) :
    Calls Tryz.prog 17 #[.agg #[.string p.name, .bool p.forbid, .int .i64 p.who.op, .string p.who.ty, .string p.who.uid.ty, .string p.who.uid.id, .int .i64 p.act.op, .string p.act.ty, .string p.act.uid.ty, .string p.act.uid.id, .int .i64 p.what.op, .string p.what.ty, .string p.what.uid.ty, .string p.what.uid.id, .slice A cs.length c], .agg #[.string who.ty, .string who.id], .agg #[.string what.ty, .string what.id]] w fun e w' => PoRet w e w' (linkP p who what).1 (linkP p who what).2 := by
  have HV : Hid (linkP p who what = (po0, udErr what)) := by show _ = _; rw [linkP, if_neg (by simp [hk]), if_neg (by rw [fillP_ok (by rw [h1]; intro h; cases h)]; simp), if_pos (by rw [fillP_bad h2 u2]; exact u2), fillP_bad h2 u2]
  have HP := Lib.hid hp
  have HC := Lib.hid hc
  have HK := Lib.hid (fun (W : World) h => r4_PolicyFault p cs A c W hp hz h (by omega))
  have HW1 := Lib.hid (fun W => r1_ud who W hu1)
  have HW2 := Lib.hid (fun W => r1_ud what W hu2)
  have HS1 := Lib.hid (fun W => r4_slotted p.who W)
  have HS2 := Lib.hid (fun W => r4_slotted p.what W)
  have HF1 := Lib.hid (fun W => r4_filled p.who who W)
  have HF2 := Lib.hid (fun W => r4_filled p.what what W)
  have HL := Lib.hid hl
  rw [HV.out]
  clear hp hz hc hu1 hu2
  rw [hk] at HK
  rw [h1] at HS1
  rw [h2] at HS2
  have tu : (udErr what == 0) = false := by simp [u2]
  have tv : (udErr what != 0) = true := by simp [u2]
  clear hk h1 h2 u2
  go_enter Tryz.func17, Tryz.ntmps17
  go_wp2_with fail
  refine (HK.out _ (HC.out.later (by (repeat (first | assumption | exact Below.refl _ _ | apply Below.drew | apply below_drewN | (refine Below.alloc ?_ (by first | exact Nat.le_refl _ | omega | (simp; done) | (simp; omega)) _)))))).mono ?_
  rintro e w1 ⟨rfl, hb1⟩
  have b1 := blk5 hb1
  clear hb1
  have c0 := b1.box.cell
  have c1 := b1.u1.cell
  have c2 := b1.u2.cell
  have c3 := b1.res.cell
  simp only [zeroPo] at c3
  have f0 := b1.box.frozen
  have f3 := b1.res.frozen
  have l0 := b1.box.lt
  have l1 := b1.u1.lt
  have l2 := b1.u2.lt
  have l3 := b1.res.lt
  go_wp2_with fail
  refine (HS1.out _).mono ?_
  rintro e w2 ⟨rfl, hb2⟩
  have b2 := b1.later hb2
  clear c0 c1 c2 c3 f0 f3 l0 l1 l2 l3
  clear hb2
  have c0 := b2.box.cell
  have c1 := b2.u1.cell
  have c2 := b2.u2.cell
  have c3 := b2.res.cell
  simp only [zeroPo] at c3
  have f0 := b2.box.frozen
  have f3 := b2.res.frozen
  have l0 := b2.box.lt
  have l1 := b2.u1.lt
  have l2 := b2.u2.lt
  have l3 := b2.res.lt
  go_wp2_with fail
  refine (HS2.out _).mono ?_
  rintro e w3 ⟨rfl, hb3⟩
  have b3 := b2.later hb3
  clear c0 c1 c2 c3 f0 f3 l0 l1 l2 l3
  clear hb3
  have c0 := b3.box.cell
  have c1 := b3.u1.cell
  have c2 := b3.u2.cell
  have c3 := b3.res.cell
  simp only [zeroPo] at c3
  have f0 := b3.box.frozen
  have f3 := b3.res.frozen
  have l0 := b3.box.lt
  have l1 := b3.u1.lt
  have l2 := b3.u2.lt
  have l3 := b3.res.lt
  go_wp2_with fail
  refine (HW2.out _).mono ?_
  rintro e w4 ⟨rfl, hb4⟩
  have b4 := b3.later hb4
  clear c0 c1 c2 c3 f0 f3 l0 l1 l2 l3
  clear hb4
  have c0 := b4.box.cell
  have c1 := b4.u1.cell
  have c2 := b4.u2.cell
  have c3 := b4.res.cell
  simp only [zeroPo] at c3
  have f0 := b4.box.frozen
  have f3 := b4.res.frozen
  have l0 := b4.box.lt
  have l1 := b4.u1.lt
  have l2 := b4.u2.lt
  have l3 := b4.res.lt
  go_wp2_with fail
  have B4 := b4.store (.string ⟨#[]⟩) (.bool false) (.int .i64 0) (.string ⟨#[]⟩) (.string ⟨#[]⟩) (.string ⟨#[]⟩) (.int .i64 0) (.string ⟨#[]⟩) (.string ⟨#[]⟩) (.string ⟨#[]⟩) (.int .i64 0) (.string ⟨#[]⟩) (.string ⟨#[]⟩) (.string ⟨#[]⟩) (.slice none 0 0)
  have kk := B4.cell
  refine bodyPost_ret (v := .tuple #[.agg zeroPo, .int .i64 (udErr what)]) (by simp [results, Tryz.results17, go_sem, kk, zeroPo]) rfl ?_
  exact PoRet.none rfl (po_below b4.on (by omega) _ _ _ _ _ _ _ _ _ _ _ _ _ _ _)
set_option maxRecDepth 100000 in
set_option maxHeartbeats 12800000 in
theorem r4_Linked_of (p : Po) (cs : List CdM) (A : Option Addr) (c : Nat) (who what : Ud) (w : World) (hp : p.conds = cs.map CdM.cd) (hz : PoZ p) (hc : CdsAt w w.heap.size A cs) (hl : cs.length ≤ c) (hcm : c ≤ 9223372036854775807) (hu1 : UdOk who) (hu2 : UdOk what) (hk : polErr p = 0) (h1 : slottedP p.who = true) (u1 : udErr who = 0) (h2 : slottedP p.what = false) :
    Calls Tryz.prog 17 #[.agg #[.string p.name, .bool p.forbid, .int .i64 p.who.op, .string p.who.ty, .string p.who.uid.ty, .string p.who.uid.id, .int .i64 p.act.op, .string p.act.ty, .string p.act.uid.ty, .string p.act.uid.id, .int .i64 p.what.op, .string p.what.ty, .string p.what.uid.ty, .string p.what.uid.id, .slice A cs.length c], .agg #[.string who.ty, .string who.id], .agg #[.string what.ty, .string what.id]] w fun e w' => PoRet w e w' (linkP p who what).1 (linkP p who what).2 := by
  have HV : Hid (linkP p who what = (⟨p.name, p.forbid, fillQ p.who who, p.act, fillQ p.what what, p.conds⟩, 0)) := by
    show _ = _
    have e1 := fillP_ok (s := p.who) (u := who) (fun _ => u1)
    have e2 := fillP_ok (s := p.what) (u := what) (by rw [h2]; intro h; cases h)
    rw [linkP, if_neg (by simp [hk]), e1, e2]; rfl
  have HP := Lib.hid hp
  have HC := Lib.hid hc
  have HK := Lib.hid (fun (W : World) h => r4_PolicyFault p cs A c W hp hz h (by omega))
  have HW1 := Lib.hid (fun W => r1_ud who W hu1)
  have HW2 := Lib.hid (fun W => r1_ud what W hu2)
  have HS1 := Lib.hid (fun W => r4_slotted p.who W)
  have HS2 := Lib.hid (fun W => r4_slotted p.what W)
  have HF1 := Lib.hid (fun W => r4_filled p.who who W)
  have HF2 := Lib.hid (fun W => r4_filled p.what what W)
  have HL := Lib.hid hl
  rw [HV.out]
  clear hp hz hc hu1 hu2
  rw [hk] at HK
  rw [h1] at HS1
  rw [u1] at HW1
  rw [h2] at HS2
  clear hk h1 u1 h2
  go_enter Tryz.func17, Tryz.ntmps17
  go_wp2_with fail
  refine (HK.out _ (HC.out.later (by (repeat (first | assumption | exact Below.refl _ _ | apply Below.drew | apply below_drewN | (refine Below.alloc ?_ (by first | exact Nat.le_refl _ | omega | (simp; done) | (simp; omega)) _)))))).mono ?_
  rintro e w1 ⟨rfl, hb1⟩
  have b1 := blk5 hb1
  clear hb1
  have c0 := b1.box.cell
  have c1 := b1.u1.cell
  have c2 := b1.u2.cell
  have c3 := b1.res.cell
  simp only [zeroPo] at c3
  have f0 := b1.box.frozen
  have f3 := b1.res.frozen
  have l0 := b1.box.lt
  have l1 := b1.u1.lt
  have l2 := b1.u2.lt
  have l3 := b1.res.lt
  go_wp2_with fail
  refine (HS1.out _).mono ?_
  rintro e w2 ⟨rfl, hb2⟩
  have b2 := b1.later hb2
  clear c0 c1 c2 c3 f0 f3 l0 l1 l2 l3
  clear hb2
  have c0 := b2.box.cell
  have c1 := b2.u1.cell
  have c2 := b2.u2.cell
  have c3 := b2.res.cell
  simp only [zeroPo] at c3
  have f0 := b2.box.frozen
  have f3 := b2.res.frozen
  have l0 := b2.box.lt
  have l1 := b2.u1.lt
  have l2 := b2.u2.lt
  have l3 := b2.res.lt
  go_wp2_with fail
  refine (HW1.out _).mono ?_
  rintro e w3 ⟨rfl, hb3⟩
  have b3 := b2.later hb3
  clear c0 c1 c2 c3 f0 f3 l0 l1 l2 l3
  clear hb3
  have c0 := b3.box.cell
  have c1 := b3.u1.cell
  have c2 := b3.u2.cell
  have c3 := b3.res.cell
  simp only [zeroPo] at c3
  have f0 := b3.box.frozen
  have f3 := b3.res.frozen
  have l0 := b3.box.lt
  have l1 := b3.u1.lt
  have l2 := b3.u2.lt
  have l3 := b3.res.lt
  go_wp2_with fail
  refine (HS2.out _).mono ?_
  rintro e w4 ⟨rfl, hb4⟩
  have b4 := b3.later hb4
  clear c0 c1 c2 c3 f0 f3 l0 l1 l2 l3
  clear hb4
  have c0 := b4.box.cell
  have c1 := b4.u1.cell
  have c2 := b4.u2.cell
  have c3 := b4.res.cell
  simp only [zeroPo] at c3
  have f0 := b4.box.frozen
  have f3 := b4.res.frozen
  have l0 := b4.box.lt
  have l1 := b4.u1.lt
  have l2 := b4.u2.lt
  have l3 := b4.res.lt
  go_wp2_with fail
  refine (HF1.out _).mono ?_
  rintro e w5 ⟨rfl, hb5⟩
  have b5 := (b4.later hb5).put 2 (.int .i64 (fillQ p.who who).op) (.string (fillQ p.who who).ty) (.string (fillQ p.who who).uid.ty) (.string (fillQ p.who who).uid.id)
  have a0 := (b4.later hb5).box.cell
  have a1 := (b4.later hb5).u1.cell
  have a2 := (b4.later hb5).u2.cell
  have a3 := (b4.later hb5).res.cell
  simp only [zeroPo] at a3
  have g0 := (b4.later hb5).box.frozen
  have g3 := (b4.later hb5).res.frozen
  have k0 := (b4.later hb5).box.lt
  have k1 := (b4.later hb5).u1.lt
  have k2 := (b4.later hb5).u2.lt
  have k3 := (b4.later hb5).res.lt
  simp only [List.setIfInBounds_toArray, List.set_cons_zero, List.set_cons_succ] at b5 a0
  clear c0 c1 c2 c3 f0 f3 l0 l1 l2 l3
  clear hb5
  go_wp2_with fail
  clear a0 a1 a2 a3 g0 g3 k0 k1 k2 k3
  have c0 := b5.box.cell
  have c1 := b5.u1.cell
  have c2 := b5.u2.cell
  have c3 := b5.res.cell
  simp only [zeroPo] at c3
  have f0 := b5.box.frozen
  have f3 := b5.res.frozen
  have l0 := b5.box.lt
  have l1 := b5.u1.lt
  have l2 := b5.u2.lt
  have l3 := b5.res.lt
  refine (HF2.out _).mono ?_
  rintro e w6 ⟨rfl, hb6⟩
  have b6 := (b5.later hb6).put 10 (.int .i64 (fillQ p.what what).op) (.string (fillQ p.what what).ty) (.string (fillQ p.what what).uid.ty) (.string (fillQ p.what what).uid.id)
  have a0 := (b5.later hb6).box.cell
  have a1 := (b5.later hb6).u1.cell
  have a2 := (b5.later hb6).u2.cell
  have a3 := (b5.later hb6).res.cell
  simp only [zeroPo] at a3
  have g0 := (b5.later hb6).box.frozen
  have g3 := (b5.later hb6).res.frozen
  have k0 := (b5.later hb6).box.lt
  have k1 := (b5.later hb6).u1.lt
  have k2 := (b5.later hb6).u2.lt
  have k3 := (b5.later hb6).res.lt
  simp only [List.setIfInBounds_toArray, List.set_cons_zero, List.set_cons_succ] at b6 a0
  clear c0 c1 c2 c3 f0 f3 l0 l1 l2 l3
  clear hb6
  go_wp2_with fail
  clear a0 a1 a2 a3 g0 g3 k0 k1 k2 k3
  have B4 := b6.store (.string p.name) (.bool p.forbid) (.int .i64 (fillQ p.who who).op) (.string (fillQ p.who who).ty) (.string (fillQ p.who who).uid.ty) (.string (fillQ p.who who).uid.id) (.int .i64 p.act.op) (.string p.act.ty) (.string p.act.uid.ty) (.string p.act.uid.id) (.int .i64 (fillQ p.what what).op) (.string (fillQ p.what what).ty) (.string (fillQ p.what what).uid.ty) (.string (fillQ p.what what).uid.id) (.slice A cs.length c)
  have kk := B4.cell
  refine bodyPost_ret (v := .tuple #[.agg #[.string p.name, .bool p.forbid, .int .i64 (fillQ p.who who).op, .string (fillQ p.who who).ty, .string (fillQ p.who who).uid.ty, .string (fillQ p.who who).uid.id, .int .i64 p.act.op, .string p.act.ty, .string p.act.uid.ty, .string p.act.uid.id, .int .i64 (fillQ p.what what).op, .string (fillQ p.what what).ty, .string (fillQ p.what what).uid.ty, .string (fillQ p.what what).uid.id, .slice A cs.length c], .int .i64 0]) (by simp [results, Tryz.results17, go_sem, kk]) rfl ?_
  have hbe := po_below b6.on (b := w.heap.size + 1 + 1 + 1) (by omega) (.string p.name) (.bool p.forbid) (.int .i64 (fillQ p.who who).op) (.string (fillQ p.who who).ty) (.string (fillQ p.who who).uid.ty) (.string (fillQ p.who who).uid.id) (.int .i64 p.act.op) (.string p.act.ty) (.string p.act.uid.ty) (.string p.act.uid.id) (.int .i64 (fillQ p.what what).op) (.string (fillQ p.what what).ty) (.string (fillQ p.what what).uid.ty) (.string (fillQ p.what what).uid.id) (.slice A cs.length c)
  exact ⟨A, c, cs, rfl, HL.out, hcm, HP.out, HC.out.later hbe, hbe⟩
set_option maxRecDepth 100000 in
set_option maxHeartbeats 12800000 in
theorem r4_Linked_oo (p : Po) (cs : List CdM) (A : Option Addr) (c : Nat) (who what : Ud) (w : World) (hp : p.conds = cs.map CdM.cd) (hz : PoZ p) (hc : CdsAt w w.heap.size A cs) (hl : cs.length ≤ c) (hcm : c ≤ 9223372036854775807) (hu1 : UdOk who) (hu2 : UdOk what) (hk : polErr p = 0) (h1 : slottedP p.who = true) (u1 : udErr who = 0) (h2 : slottedP p.what = true) (u2 : udErr what = 0) :
    Calls Tryz.prog 17 #[.agg #[.string p.name, .bool p.forbid, .int .i64 p.who.op, .string p.who.ty, .string p.who.uid.ty, .string p.who.uid.id, .int .i64 p.act.op, .string p.act.ty, .string p.act.uid.ty, .string p.act.uid.id, .int .i64 p.what.op, .string p.what.ty, .string p.what.uid.ty, .string p.what.uid.id, .slice A cs.length c], .agg #[.string who.ty, .string who.id], .agg #[.string what.ty, .string what.id]] w fun e w' => PoRet w e w' (linkP p who what).1 (linkP p who what).2 := by
  have HV : Hid (linkP p who what = (⟨p.name, p.forbid, fillQ p.who who, p.act, fillQ p.what what, p.conds⟩, 0)) := by
    show _ = _
    have e1 := fillP_ok (s := p.who) (u := who) (fun _ => u1)
    have e2 := fillP_ok (s := p.what) (u := what) (fun _ => u2)
    rw [linkP, if_neg (by simp [hk]), e1, e2]; rfl
  have HP := Lib.hid hp
  have HC := Lib.hid hc
  have HK := Lib.hid (fun (W : World) h => r4_PolicyFault p cs A c W hp hz h (by omega))
  have HW1 := Lib.hid (fun W => r1_ud who W hu1)
  have HW2 := Lib.hid (fun W => r1_ud what W hu2)
  have HS1 := Lib.hid (fun W => r4_slotted p.who W)
  have HS2 := Lib.hid (fun W => r4_slotted p.what W)
  have HF1 := Lib.hid (fun W => r4_filled p.who who W)
  have HF2 := Lib.hid (fun W => r4_filled p.what what W)
  have HL := Lib.hid hl
  rw [HV.out]
  clear hp hz hc hu1 hu2
  rw [hk] at HK
  rw [h1] at HS1
  rw [u1] at HW1
  rw [h2] at HS2
  rw [u2] at HW2
  clear hk h1 u1 h2 u2
  go_enter Tryz.func17, Tryz.ntmps17
  go_wp2_with fail
  refine (HK.out _ (HC.out.later (by (repeat (first | assumption | exact Below.refl _ _ | apply Below.drew | apply below_drewN | (refine Below.alloc ?_ (by first | exact Nat.le_refl _ | omega | (simp; done) | (simp; omega)) _)))))).mono ?_
  rintro e w1 ⟨rfl, hb1⟩
  have b1 := blk5 hb1
  clear hb1
  have c0 := b1.box.cell
  have c1 := b1.u1.cell
  have c2 := b1.u2.cell
  have c3 := b1.res.cell
  simp only [zeroPo] at c3
  have f0 := b1.box.frozen
  have f3 := b1.res.frozen
  have l0 := b1.box.lt
  have l1 := b1.u1.lt
  have l2 := b1.u2.lt
  have l3 := b1.res.lt
  go_wp2_with fail
  refine (HS1.out _).mono ?_
  rintro e w2 ⟨rfl, hb2⟩
  have b2 := b1.later hb2
  clear c0 c1 c2 c3 f0 f3 l0 l1 l2 l3
  clear hb2
  have c0 := b2.box.cell
  have c1 := b2.u1.cell
  have c2 := b2.u2.cell
  have c3 := b2.res.cell
  simp only [zeroPo] at c3
  have f0 := b2.box.frozen
  have f3 := b2.res.frozen
  have l0 := b2.box.lt
  have l1 := b2.u1.lt
  have l2 := b2.u2.lt
  have l3 := b2.res.lt
  go_wp2_with fail
  refine (HW1.out _).mono ?_
  rintro e w3 ⟨rfl, hb3⟩
  have b3 := b2.later hb3
  clear c0 c1 c2 c3 f0 f3 l0 l1 l2 l3
  clear hb3
  have c0 := b3.box.cell
  have c1 := b3.u1.cell
  have c2 := b3.u2.cell
  have c3 := b3.res.cell
  simp only [zeroPo] at c3
  have f0 := b3.box.frozen
  have f3 := b3.res.frozen
  have l0 := b3.box.lt
  have l1 := b3.u1.lt
  have l2 := b3.u2.lt
  have l3 := b3.res.lt
  go_wp2_with fail
  refine (HS2.out _).mono ?_
  rintro e w4 ⟨rfl, hb4⟩
  have b4 := b3.later hb4
  clear c0 c1 c2 c3 f0 f3 l0 l1 l2 l3
  clear hb4
  have c0 := b4.box.cell
  have c1 := b4.u1.cell
  have c2 := b4.u2.cell
  have c3 := b4.res.cell
  simp only [zeroPo] at c3
  have f0 := b4.box.frozen
  have f3 := b4.res.frozen
  have l0 := b4.box.lt
  have l1 := b4.u1.lt
  have l2 := b4.u2.lt
  have l3 := b4.res.lt
  go_wp2_with fail
  refine (HW2.out _).mono ?_
  rintro e w5 ⟨rfl, hb5⟩
  have b5 := b4.later hb5
  clear c0 c1 c2 c3 f0 f3 l0 l1 l2 l3
  clear hb5
  have c0 := b5.box.cell
  have c1 := b5.u1.cell
  have c2 := b5.u2.cell
  have c3 := b5.res.cell
  simp only [zeroPo] at c3
  have f0 := b5.box.frozen
  have f3 := b5.res.frozen
  have l0 := b5.box.lt
  have l1 := b5.u1.lt
  have l2 := b5.u2.lt
  have l3 := b5.res.lt
  go_wp2_with fail
  refine (HF1.out _).mono ?_
  rintro e w6 ⟨rfl, hb6⟩
  have b6 := (b5.later hb6).put 2 (.int .i64 (fillQ p.who who).op) (.string (fillQ p.who who).ty) (.string (fillQ p.who who).uid.ty) (.string (fillQ p.who who).uid.id)
  have a0 := (b5.later hb6).box.cell
  have a1 := (b5.later hb6).u1.cell
  have a2 := (b5.later hb6).u2.cell
  have a3 := (b5.later hb6).res.cell
  simp only [zeroPo] at a3
  have g0 := (b5.later hb6).box.frozen
  have g3 := (b5.later hb6).res.frozen
  have k0 := (b5.later hb6).box.lt
  have k1 := (b5.later hb6).u1.lt
  have k2 := (b5.later hb6).u2.lt
  have k3 := (b5.later hb6).res.lt
  simp only [List.setIfInBounds_toArray, List.set_cons_zero, List.set_cons_succ] at b6 a0
  clear c0 c1 c2 c3 f0 f3 l0 l1 l2 l3
  clear hb6
  go_wp2_with fail
  clear a0 a1 a2 a3 g0 g3 k0 k1 k2 k3
  have c0 := b6.box.cell
  have c1 := b6.u1.cell
  have c2 := b6.u2.cell
  have c3 := b6.res.cell
  simp only [zeroPo] at c3
  have f0 := b6.box.frozen
  have f3 := b6.res.frozen
  have l0 := b6.box.lt
  have l1 := b6.u1.lt
  have l2 := b6.u2.lt
  have l3 := b6.res.lt
  refine (HF2.out _).mono ?_
  rintro e w7 ⟨rfl, hb7⟩
  have b7 := (b6.later hb7).put 10 (.int .i64 (fillQ p.what what).op) (.string (fillQ p.what what).ty) (.string (fillQ p.what what).uid.ty) (.string (fillQ p.what what).uid.id)
  have a0 := (b6.later hb7).box.cell
  have a1 := (b6.later hb7).u1.cell
  have a2 := (b6.later hb7).u2.cell
  have a3 := (b6.later hb7).res.cell
  simp only [zeroPo] at a3
  have g0 := (b6.later hb7).box.frozen
  have g3 := (b6.later hb7).res.frozen
  have k0 := (b6.later hb7).box.lt
  have k1 := (b6.later hb7).u1.lt
  have k2 := (b6.later hb7).u2.lt
  have k3 := (b6.later hb7).res.lt
  simp only [List.setIfInBounds_toArray, List.set_cons_zero, List.set_cons_succ] at b7 a0
  clear c0 c1 c2 c3 f0 f3 l0 l1 l2 l3
  clear hb7
  go_wp2_with fail
  clear a0 a1 a2 a3 g0 g3 k0 k1 k2 k3
  have B4 := b7.store (.string p.name) (.bool p.forbid) (.int .i64 (fillQ p.who who).op) (.string (fillQ p.who who).ty) (.string (fillQ p.who who).uid.ty) (.string (fillQ p.who who).uid.id) (.int .i64 p.act.op) (.string p.act.ty) (.string p.act.uid.ty) (.string p.act.uid.id) (.int .i64 (fillQ p.what what).op) (.string (fillQ p.what what).ty) (.string (fillQ p.what what).uid.ty) (.string (fillQ p.what what).uid.id) (.slice A cs.length c)
  have kk := B4.cell
  refine bodyPost_ret (v := .tuple #[.agg #[.string p.name, .bool p.forbid, .int .i64 (fillQ p.who who).op, .string (fillQ p.who who).ty, .string (fillQ p.who who).uid.ty, .string (fillQ p.who who).uid.id, .int .i64 p.act.op, .string p.act.ty, .string p.act.uid.ty, .string p.act.uid.id, .int .i64 (fillQ p.what what).op, .string (fillQ p.what what).ty, .string (fillQ p.what what).uid.ty, .string (fillQ p.what what).uid.id, .slice A cs.length c], .int .i64 0]) (by simp [results, Tryz.results17, go_sem, kk]) rfl ?_
  have hbe := po_below b7.on (b := w.heap.size + 1 + 1 + 1) (by omega) (.string p.name) (.bool p.forbid) (.int .i64 (fillQ p.who who).op) (.string (fillQ p.who who).ty) (.string (fillQ p.who who).uid.ty) (.string (fillQ p.who who).uid.id) (.int .i64 p.act.op) (.string p.act.ty) (.string p.act.uid.ty) (.string p.act.uid.id) (.int .i64 (fillQ p.what what).op) (.string (fillQ p.what what).ty) (.string (fillQ p.what what).uid.ty) (.string (fillQ p.what what).uid.id) (.slice A cs.length c)
  exact ⟨A, c, cs, rfl, HL.out, hcm, HP.out, HC.out.later hbe, hbe⟩
set_option maxRecDepth 100000 in
set_option maxHeartbeats 12800000 in
theorem r4_Linked_ob (p : Po) (cs : List CdM) (A : Option Addr) (c : Nat) (who what : Ud) (w : World) (hp : p.conds = cs.map CdM.cd) (hz : PoZ p) (hc : CdsAt w w.heap.size A cs) (hl : cs.length ≤ c) (hcm : c ≤ 9223372036854775807) (hu1 : UdOk who) (hu2 : UdOk what) (hk : polErr p = 0) (h1 : slottedP p.who = true) (u1 : udErr who = 0) (h2 : slottedP p.what = true) (u2 : ¬ udErr what = 0) :
    Calls Tryz.prog 17 #[.agg #[.string p.name, .bool p.forbid, .int .i64 p.who.op, .string p.who.ty, .string p.who.uid.ty, .string p.who.uid.id, .int .i64 p.act.op, .string p.act.ty, .string p.act.uid.ty, .string p.act.uid.id, .int .i64 p.what.op, .string p.what.ty, .string p.what.uid.ty, .string p.what.uid.id, .slice A cs.length c], .agg #[.string who.ty, .string who.id], .agg #[.string what.ty, .string what.id]] w fun e w' => PoRet w e w' (linkP p who what).1 (linkP p who what).2 := by
  have HV : Hid (linkP p who what = (po0, udErr what)) := by show _ = _; rw [linkP, if_neg (by simp [hk]), if_neg (by rw [fillP_ok (by intro _; exact u1)]; simp), if_pos (by rw [fillP_bad h2 u2]; exact u2), fillP_bad h2 u2]
  have HP := Lib.hid hp
  have HC := Lib.hid hc
  have HK := Lib.hid (fun (W : World) h => r4_PolicyFault p cs A c W hp hz h (by omega))
  have HW1 := Lib.hid (fun W => r1_ud who W hu1)
  have HW2 := Lib.hid (fun W => r1_ud what W hu2)
  have HS1 := Lib.hid (fun W => r4_slotted p.who W)
  have HS2 := Lib.hid (fun W => r4_slotted p.what W)
  have HF1 := Lib.hid (fun W => r4_filled p.who who W)
  have HF2 := Lib.hid (fun W => r4_filled p.what what W)
  have HL := Lib.hid hl
  rw [HV.out]
  clear hp hz hc hu1 hu2
  rw [hk] at HK
  rw [h1] at HS1
  rw [u1] at HW1
  rw [h2] at HS2
  have tu : (udErr what == 0) = false := by simp [u2]
  have tv : (udErr what != 0) = true := by simp [u2]
  clear hk h1 u1 h2 u2
  go_enter Tryz.func17, Tryz.ntmps17
  go_wp2_with fail
  refine (HK.out _ (HC.out.later (by (repeat (first | assumption | exact Below.refl _ _ | apply Below.drew | apply below_drewN | (refine Below.alloc ?_ (by first | exact Nat.le_refl _ | omega | (simp; done) | (simp; omega)) _)))))).mono ?_
  rintro e w1 ⟨rfl, hb1⟩
  have b1 := blk5 hb1
  clear hb1
  have c0 := b1.box.cell
  have c1 := b1.u1.cell
  have c2 := b1.u2.cell
  have c3 := b1.res.cell
  simp only [zeroPo] at c3
  have f0 := b1.box.frozen
  have f3 := b1.res.frozen
  have l0 := b1.box.lt
  have l1 := b1.u1.lt
  have l2 := b1.u2.lt
  have l3 := b1.res.lt
  go_wp2_with fail
  refine (HS1.out _).mono ?_
  rintro e w2 ⟨rfl, hb2⟩
  have b2 := b1.later hb2
  clear c0 c1 c2 c3 f0 f3 l0 l1 l2 l3
  clear hb2
  have c0 := b2.box.cell
  have c1 := b2.u1.cell
  have c2 := b2.u2.cell
  have c3 := b2.res.cell
  simp only [zeroPo] at c3
  have f0 := b2.box.frozen
  have f3 := b2.res.frozen
  have l0 := b2.box.lt
  have l1 := b2.u1.lt
  have l2 := b2.u2.lt
  have l3 := b2.res.lt
  go_wp2_with fail
  refine (HW1.out _).mono ?_
  rintro e w3 ⟨rfl, hb3⟩
  have b3 := b2.later hb3
  clear c0 c1 c2 c3 f0 f3 l0 l1 l2 l3
  clear hb3
  have c0 := b3.box.cell
  have c1 := b3.u1.cell
  have c2 := b3.u2.cell
  have c3 := b3.res.cell
  simp only [zeroPo] at c3
  have f0 := b3.box.frozen
  have f3 := b3.res.frozen
  have l0 := b3.box.lt
  have l1 := b3.u1.lt
  have l2 := b3.u2.lt
  have l3 := b3.res.lt
  go_wp2_with fail
  refine (HS2.out _).mono ?_
  rintro e w4 ⟨rfl, hb4⟩
  have b4 := b3.later hb4
  clear c0 c1 c2 c3 f0 f3 l0 l1 l2 l3
  clear hb4
  have c0 := b4.box.cell
  have c1 := b4.u1.cell
  have c2 := b4.u2.cell
  have c3 := b4.res.cell
  simp only [zeroPo] at c3
  have f0 := b4.box.frozen
  have f3 := b4.res.frozen
  have l0 := b4.box.lt
  have l1 := b4.u1.lt
  have l2 := b4.u2.lt
  have l3 := b4.res.lt
  go_wp2_with fail
  refine (HW2.out _).mono ?_
  rintro e w5 ⟨rfl, hb5⟩
  have b5 := b4.later hb5
  clear c0 c1 c2 c3 f0 f3 l0 l1 l2 l3
  clear hb5
  have c0 := b5.box.cell
  have c1 := b5.u1.cell
  have c2 := b5.u2.cell
  have c3 := b5.res.cell
  simp only [zeroPo] at c3
  have f0 := b5.box.frozen
  have f3 := b5.res.frozen
  have l0 := b5.box.lt
  have l1 := b5.u1.lt
  have l2 := b5.u2.lt
  have l3 := b5.res.lt
  go_wp2_with fail
  have B4 := b5.store (.string ⟨#[]⟩) (.bool false) (.int .i64 0) (.string ⟨#[]⟩) (.string ⟨#[]⟩) (.string ⟨#[]⟩) (.int .i64 0) (.string ⟨#[]⟩) (.string ⟨#[]⟩) (.string ⟨#[]⟩) (.int .i64 0) (.string ⟨#[]⟩) (.string ⟨#[]⟩) (.string ⟨#[]⟩) (.slice none 0 0)
  have kk := B4.cell
  refine bodyPost_ret (v := .tuple #[.agg zeroPo, .int .i64 (udErr what)]) (by simp [results, Tryz.results17, go_sem, kk, zeroPo]) rfl ?_
  exact PoRet.none rfl (po_below b5.on (by omega) _ _ _ _ _ _ _ _ _ _ _ _ _ _ _)
theorem r4_Linked (p : Po) (cs : List CdM) (A : Option Addr) (c : Nat) (who what : Ud) (w : World) (hp : p.conds = cs.map CdM.cd) (hz : PoZ p) (hc : CdsAt w w.heap.size A cs) (hl : cs.length ≤ c) (hcm : c ≤ 9223372036854775807) (hu1 : UdOk who) (hu2 : UdOk what) :
    Calls Tryz.prog 17 #[.agg #[.string p.name, .bool p.forbid, .int .i64 p.who.op, .string p.who.ty, .string p.who.uid.ty, .string p.who.uid.id, .int .i64 p.act.op, .string p.act.ty, .string p.act.uid.ty, .string p.act.uid.id, .int .i64 p.what.op, .string p.what.ty, .string p.what.uid.ty, .string p.what.uid.id, .slice A cs.length c], .agg #[.string who.ty, .string who.id], .agg #[.string what.ty, .string what.id]] w fun e w' => PoRet w e w' (linkP p who what).1 (linkP p who what).2 := by
  by_cases hk : polErr p = 0
  · cases h1 : slottedP p.who with
    | false =>
      cases h2 : slottedP p.what with
      | false => exact r4_Linked_ff p cs A c who what w hp hz hc hl hcm hu1 hu2 hk h1 h2
      | true =>
        by_cases u2 : udErr what = 0
        · exact r4_Linked_fo p cs A c who what w hp hz hc hl hcm hu1 hu2 hk h1 h2 u2
        · exact r4_Linked_fb p cs A c who what w hp hz hc hl hcm hu1 hu2 hk h1 h2 u2
    | true =>
      by_cases u1 : udErr who = 0
      · cases h2 : slottedP p.what with
        | false => exact r4_Linked_of p cs A c who what w hp hz hc hl hcm hu1 hu2 hk h1 u1 h2
        | true =>
          by_cases u2 : udErr what = 0
          · exact r4_Linked_oo p cs A c who what w hp hz hc hl hcm hu1 hu2 hk h1 u1 h2 u2
          · exact r4_Linked_ob p cs A c who what w hp hz hc hl hcm hu1 hu2 hk h1 u1 h2 u2
      · exact r4_Linked_b p cs A c who what w hp hz hc hl hcm hu1 hu2 hk h1 u1
  · exact r4_Linked_p p cs A c who what w hp hz hc hl hcm hu1 hu2 hk
end Go.Proofs.YtbommoefpekalaaGreatDoor
