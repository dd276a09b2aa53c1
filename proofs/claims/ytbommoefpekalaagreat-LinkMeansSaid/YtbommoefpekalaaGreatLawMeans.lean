/-
  THE WALK of the law LinkMeans.
-/
import Derived.Test.YtbommoefpekalaaGreatMPlain2
import Derived.Test.YtbommoefpekalaaGreatTree5
import Derived.Test.YtbommoefpekalaaGreatSameN
namespace Go.Proofs.YtbommoefpekalaaGreat
open Go.RowKit Go.Sort

set_option maxRecDepth 100000 in
set_option maxHeartbeats 800000 in
theorem r3_EntOf (u : Ud) (w : World) : Calls Tryz.prog 10 #[.agg #[.string u.ty, .string u.id]] w fun r w' => NdsRet w r w' [entN u] := by
  go_enter Tryz.func10, Tryz.ntmps10
  go_wp2_with fail
  go_ret
  refine ⟨some ⟨w.heap.size + 1, 0, none⟩, 1, rfl, Nat.le_refl _, by omega, ?_, by (repeat (first | assumption | exact Below.refl _ _ | apply Below.drew | apply below_drewN | (refine Below.alloc ?_ (by first | exact Nat.le_refl _ | omega | (simp; done) | (simp; omega)) _)))⟩
  have := nd_blk (x := entN u) (Blk.new (w.alloc (.cells #[.string u.ty, .string u.id] 23)) 53 #[.int .i64 4, .int .i64 0, .string u.ty, .string u.id])
  rwa [World.size_alloc w] at this
def udA : Ud := ⟨⟨#[65]⟩, ⟨#[]⟩⟩
def poC : Po := ⟨⟨#[97]⟩, false, ⟨5, ⟨#[]⟩, ud0⟩, sc0, sc0, []⟩
theorem linkC : linkP poC udA ud0 = (⟨⟨#[97]⟩, false, ⟨1, ⟨#[]⟩, udA⟩, sc0, sc0, []⟩, 0) := by
  have hn : nameErr poC.name.toList = 0 := by show nameErr (⟨#[97]⟩ : ByteArray).toList = 0; rw [ByteArray.toList_eq]; decide
  have hs : ∀ b, scOk sc0 b = true := fun b => by simp [scOk, sc0, udNone, ud0, emp, ByteArray.toList_eq]
  have h1 : polErr poC = 0 := pol_ok.2 ⟨hn, by simp [poC, scOk, udNone, ud0, emp, ByteArray.toList_eq], hs _, hs _, by simp [poC], rfl⟩
  have hu : udErr udA = 0 := by unfold udErr udA; simp only [ByteArray.toList_eq]; decide
  have f1 : fillP poC.who udA = (⟨1, ⟨#[]⟩, udA⟩, 0) := by
    unfold fillP
    rw [if_pos (by simp [slottedP, poC]), if_pos hu]; rfl
  have f2 : fillP poC.what ud0 = (sc0, 0) := by
    unfold fillP
    rw [if_neg (by simp [slottedP, poC, sc0])]; rfl
  unfold linkP
  rw [if_neg (by simp [h1]), f1, f2]
  simp [poC]
theorem link_c (W : World) : Calls Tryz.prog 5 #[.agg #[.string ⟨#[97]⟩, .bool false, .int .i64 5, .string ⟨#[]⟩, .string ⟨#[]⟩, .string ⟨#[]⟩, .int .i64 0, .string ⟨#[]⟩, .string ⟨#[]⟩, .string ⟨#[]⟩, .int .i64 0, .string ⟨#[]⟩, .string ⟨#[]⟩, .string ⟨#[]⟩, .slice none 0 0], .agg #[.string ⟨#[65]⟩, .string ⟨#[]⟩], .agg #[.string ⟨#[]⟩, .string ⟨#[]⟩]] W fun e w' =>
    (∃ A c, e = .returned (.tuple #[.agg #[.string ⟨#[97]⟩, .bool false, .int .i64 1, .string ⟨#[]⟩, .string ⟨#[65]⟩, .string ⟨#[]⟩, .int .i64 0, .string ⟨#[]⟩, .string ⟨#[]⟩, .string ⟨#[]⟩, .int .i64 0, .string ⟨#[]⟩, .string ⟨#[]⟩, .string ⟨#[]⟩, .slice A 0 c], errV 0])) ∧ Below W.heap.size W w' := by
  have h := link_Link poC [] none 0 udA ud0 W rfl ⟨by decide, ⟨empty_le, empty_le, empty_le⟩, ⟨empty_le, empty_le, empty_le⟩, ⟨empty_le, empty_le, empty_le⟩⟩ ⟨SlG.nil _ _ _, by simp⟩ (by simp) ⟨by decide, empty_le⟩ ⟨empty_le, empty_le⟩
  refine Calls.mono h ?_
  rintro e w' ⟨A, c, cs, he, _, _, hcs, _, hb⟩
  rw [linkC] at he hcs
  have : cs = [] := by
    have := congrArg List.length hcs
    simp at this
    exact List.eq_nil_of_length_eq_zero this.symm
  subst this
  exact ⟨⟨A, c, he⟩, hb⟩
/-- What the round's region reads. -/
def MS (wr : World) (b i : Nat) (u : Ud) (s : ByteArray) (W : World) : Prop :=
  W.cell? ⟨wr.heap.size, 0, none⟩ = some (.string u.ty) ∧ W.cell? ⟨wr.heap.size, 1, none⟩ = some (.string u.id) ∧ W.cell? ⟨b, i, none⟩ = some (.string s) ∧ RowKit.Below wr.heap.size wr W ∧ wr.heap.size < W.heap.size
theorem MS.on {wr : World} {b i : Nat} {u : Ud} {s : ByteArray} {W : World} (h : MS wr b i u s W) : RowKit.Below wr.heap.size wr W := h.2.2.2.1
theorem MS.keep {wr : World} {b i : Nat} {u : Ud} {s : ByteArray} {W W' : World} (h : MS wr b i u s W) (hb : RowKit.Below W.heap.size W W') (hbw : b < wr.heap.size) : MS wr b i u s W' := by
  obtain ⟨h1, h2, h3, h4, h5⟩ := h
  have hz := hb.size
  exact ⟨(hb.cell (p := ⟨wr.heap.size, 0, none⟩) h5).trans h1, (hb.cell (p := ⟨wr.heap.size, 1, none⟩) h5).trans h2, (hb.cell (p := ⟨b, i, none⟩) (by show b < W.heap.size; omega)).trans h3, h4.trans (hb.mono h4.size), by omega⟩
theorem put_one {e : List Nd} {s : ByteArray} {x : Nd} (h : treeErr e = 0) (hx : treeErr [x] = 0) : putV e s [x] = (putL e s [x], 0) := by
  unfold putV
  rw [if_neg (by simp [h]), if_neg (by simp [hx]), if_neg (by rw [putL_one_len]; have := (tree_len h).1; omega)]
theorem MS.new {wr : World} {b i : Nat} {u : Ud} {s : ByteArray} {T : TypeId} (h : wr.cell? ⟨b, i, none⟩ = some (.string s)) (hb : b < wr.heap.size) : MS wr b i u s (wr.alloc (.cells #[.string u.ty, .string u.id] T)).drew :=
  ⟨by simp [go_sem], by simp [go_sem], (World.cell?_alloc_lt wr _ ⟨b, i, none⟩ hb).trans h, ((RowKit.Below.refl _ _).alloc (Nat.le_refl _) _).drew, by simp⟩
/-- The boxes of the call. -/
structure MBox (w : World) (V : Array Value) (who what : Ud) (W : World) : Prop where
  box : Blk W w.heap.size 28 V
  u1 : Blk W (w.heap.size + 1) 23 #[.string who.ty, .string who.id]
  u2 : Blk W (w.heap.size + 1 + 1) 23 #[.string what.ty, .string what.id]
  on : RowKit.Below w.heap.size w W
theorem MBox.later {w W W' : World} {V : Array Value} {who what : Ud} (h : MBox w V who what W) (hb : RowKit.Below W.heap.size W W') : MBox w V who what W' :=
  ⟨h.box.below hb h.box.lt, h.u1.below hb h.u1.lt, h.u2.below hb h.u2.lt, h.on.trans (hb.mono h.on.size)⟩
theorem MBox.alloc {w W : World} {V : Array Value} {who what : Ud} (h : MBox w V who what W) (O : Obj) : MBox w V who what (W.alloc O) := h.later ((RowKit.Below.refl _ _).alloc (Nat.le_refl _) _)
set_option maxRecDepth 100000 in
set_option maxHeartbeats 12800000 in
theorem law_means_bad (p : Po) (cs : List CdM) (A : Option Addr) (c : Nat) (who what : Ud) (w : World) (hp : p.conds = cs.map CdM.cd) (hz : PoZ p) (hc : CdsAt w w.heap.size A cs) (hl : cs.length ≤ c) (hcm : c ≤ 9223372036854775807) (hu1 : UdOk who) (hu2 : UdOk what) (hk : ¬ (linkP p who what).2 = 0) :
    Calls Tryz.prog 4 #[.agg #[.string p.name, .bool p.forbid, .int .i64 p.who.op, .string p.who.ty, .string p.who.uid.ty, .string p.who.uid.id, .int .i64 p.act.op, .string p.act.ty, .string p.act.uid.ty, .string p.act.uid.id, .int .i64 p.what.op, .string p.what.ty, .string p.what.uid.ty, .string p.what.uid.id, .slice A cs.length c], .agg #[.string who.ty, .string who.id], .agg #[.string what.ty, .string what.id]] w fun r w' => r = .returned (.bool true) ∧ RowKit.Below w.heap.size w w' := by
  have HLL := Lib.hid (fun W (h : RowKit.Below w.heap.size w W) => link_Link p cs A c who what W hp hz (hc.later h) (by omega) hu1 hu2)
  have HX := Lib.hid link_c
  clear hp hz hc hu1 hu2
  generalize (linkP p who what).1 = q at HLL
  generalize (linkP p who what).2 = k at HLL hk
  have tk : (k != 0) = true := by simp [hk]
  clear hk
  go_enter Tryz.func4, Tryz.ntmps4
  go_wp2_with fail
  refine (HX.out _).mono ?_
  rintro r w1 ⟨⟨A1, c1, rfl⟩, hb1⟩
  obtain ⟨q0, q1, q2, q3⟩ := three hb1
  have b1 := (MBox.mk q0 q1 q2 q3).alloc (.cells #[.string ⟨#[97]⟩, .bool false, .int .i64 1, .string ⟨#[]⟩, .string ⟨#[65]⟩, .string ⟨#[]⟩, .int .i64 0, .string ⟨#[]⟩, .string ⟨#[]⟩, .string ⟨#[]⟩, .int .i64 0, .string ⟨#[]⟩, .string ⟨#[]⟩, .string ⟨#[]⟩, .slice A1 0 c1] 28)
  have c0 := q0.cell
  have c1 := q1.cell
  have c2 := q2.cell
  have l0 := q0.lt
  have l1 := q1.lt
  have l2 := q2.lt
  clear hb1 q0 q1 q2 q3
  go_wp2_with fail
  refine (HLL.out _ b1.on).mono ?_
  rintro r w2 ⟨A2, c2, cs2, rfl, hl2, hm2, hq2, hc2, hb2⟩
  have b2 := b1.later hb2
  clear hb2 b1 c0 l0 l1 l2 hc2 hq2 hl2
  go_wp2_with fail
  go_ret
  exact ⟨rfl, b2.on.alloc b2.on.size _⟩
set_option maxRecDepth 100000 in
set_option maxHeartbeats 12800000 in
theorem law_means_good (p : Po) (cs : List CdM) (A : Option Addr) (c : Nat) (who what : Ud) (w : World) (hp : p.conds = cs.map CdM.cd) (hz : PoZ p) (hc : CdsAt w w.heap.size A cs) (hl : cs.length ≤ c) (hcm : c ≤ 9223372036854775807) (hu1 : UdOk who) (hu2 : UdOk what) (hk : (linkP p who what).2 = 0) :
    Calls Tryz.prog 4 #[.agg #[.string p.name, .bool p.forbid, .int .i64 p.who.op, .string p.who.ty, .string p.who.uid.ty, .string p.who.uid.id, .int .i64 p.act.op, .string p.act.ty, .string p.act.uid.ty, .string p.act.uid.id, .int .i64 p.what.op, .string p.what.ty, .string p.what.uid.ty, .string p.what.uid.id, .slice A cs.length c], .agg #[.string who.ty, .string who.id], .agg #[.string what.ty, .string what.id]] w fun r w' => r = .returned (.bool true) ∧ RowKit.Below w.heap.size w w' := by
  have HLL := Lib.hid (fun W (h : RowKit.Below w.heap.size w W) => link_Link p cs A c who what W hp hz (hc.later h) (by omega) hu1 hu2)
  have HX := Lib.hid link_c
  obtain ⟨q, hq⟩ : ∃ q, linkP p who what = (q, 0) := ⟨(linkP p who what).1, by rw [← hk]⟩
  rw [hq] at HLL
  have hkp := (link_ok hq).1
  have hkq := (link_pol hq).1
  have HZ := Lib.hid (link_z hq hz hu1 hu2)
  have HSP := Lib.hid (fun W (h : RowKit.Below w.heap.size w W) => link_Slots p cs A c W hp hz (hc.later h) (by omega) hkp)
  have HSQ := Lib.hid (fun W (cs' : List CdM) A' c' hp' hc' hl' => link_Slots q cs' A' c' W hp' HZ.out hc' hl' hkq)
  rw [slots_none hq] at HSQ
  have HEP := Lib.hid (fun W (h : RowKit.Below w.heap.size w W) => pol_Expr p cs A c W hp hz (hc.later h) (by omega) hkp)
  have HEQ := Lib.hid (fun W (cs' : List CdM) A' c' hp' hc' hl' => pol_Expr q cs' A' c' W hp' HZ.out hc' hl' hkq)
  have HT := Lib.hid (fun h => expr_tree hkp h)
  have HLE := Lib.hid (link_expr hq)
  have HUD := Lib.hid (slots_ud hq)
  have hln : (exprE q).length = (exprE p).length := by rw [← HLE.out, fillL_len]
  have HP1 : Hid (exprP p = if 200 < (exprE p).length then ([], 4) else (exprE p, 0)) := by show _ = _; unfold exprP; rw [if_neg (by simp [hkp])]
  have HP2 : Hid (exprP q = if 200 < (exprE p).length then ([], 4) else (exprE q, 0)) := by show _ = _; unfold exprP; rw [if_neg (by simp [hkq]), hln]
  have hsl : (slotsP p).length ≤ 2 := by unfold slotsP; rw [List.length_append]; split <;> split <;> simp
  clear hp hz hc hu1 hu2 hkp hkq hk hq hln HZ
  generalize slotsP p = ss at HSP HLE HUD hsl
  generalize exprE p = e at HT HLE HP1 HP2
  generalize exprE q = f at HLE HP2
  go_enter Tryz.func4, Tryz.ntmps4
  go_wp2_with fail
  refine (HX.out _).mono ?_
  rintro r w1 ⟨⟨A1, c1, rfl⟩, hb1⟩
  obtain ⟨q0, q1, q2, q3⟩ := three hb1
  have b1 := (MBox.mk q0 q1 q2 q3).alloc (.cells #[.string ⟨#[97]⟩, .bool false, .int .i64 1, .string ⟨#[]⟩, .string ⟨#[65]⟩, .string ⟨#[]⟩, .int .i64 0, .string ⟨#[]⟩, .string ⟨#[]⟩, .string ⟨#[]⟩, .int .i64 0, .string ⟨#[]⟩, .string ⟨#[]⟩, .string ⟨#[]⟩, .slice A1 0 c1] 28)
  have c0 := q0.cell
  have c1 := q1.cell
  have c2 := q2.cell
  have l0 := q0.lt
  have l1 := q1.lt
  have l2 := q2.lt
  clear hb1 q0 q1 q2 q3
  go_wp2_with fail
  refine (HLL.out _ b1.on).mono ?_
  rintro r w2 ⟨A2, cc2, cs2, rfl, hl2, hm2, hq2, hc2, hb2⟩
  have b2 := (b1.later hb2).alloc (.cells #[.string q.name, .bool q.forbid, .int .i64 q.who.op, .string q.who.ty, .string q.who.uid.ty, .string q.who.uid.id, .int .i64 q.act.op, .string q.act.ty, .string q.act.uid.ty, .string q.act.uid.id, .int .i64 q.what.op, .string q.what.ty, .string q.what.uid.ty, .string q.what.uid.id, .slice A2 cs2.length cc2] 28)
  have d2 := Blk.new w2 28 #[.string q.name, .bool q.forbid, .int .i64 q.who.op, .string q.who.ty, .string q.who.uid.ty, .string q.who.uid.id, .int .i64 q.act.op, .string q.act.ty, .string q.act.uid.ty, .string q.act.uid.id, .int .i64 q.what.op, .string q.what.ty, .string q.what.uid.ty, .string q.what.uid.id, .slice A2 cs2.length cc2]
  have HC2 := Lib.hid (hc2.later ((RowKit.Below.refl _ _).alloc (Nat.le_refl _) (.cells #[.string q.name, .bool q.forbid, .int .i64 q.who.op, .string q.who.ty, .string q.who.uid.ty, .string q.who.uid.id, .int .i64 q.act.op, .string q.act.ty, .string q.act.uid.ty, .string q.act.uid.id, .int .i64 q.what.op, .string q.what.ty, .string q.what.uid.ty, .string q.what.uid.id, .slice A2 cs2.length cc2] 28)))
  have HQ2 := Lib.hid hq2
  have hll : cs2.length ≤ 9223372036854775807 := by omega
  clear hb2 b1 c0 c1 c2 l0 l1 l2 hc2 hq2 hl2 HLL HX
  go_wp2_with fail
  refine (HSQ.out _ cs2 A2 cc2 HQ2.out HC2.out hll).mono ?_
  rintro r w3 ⟨A3, c3, rfl, -, -, -, hb3⟩
  have b3 := b2.later hb3
  have d3 := d2.below hb3 d2.lt
  have HC3 := Lib.hid (HC2.out.later hb3)
  clear hb3 b2 d2 HC2
  have c0 := b3.box.cell
  have l0 := b3.box.lt
  go_wp2_with fail
  refine (HSP.out _ b3.on).mono ?_
  rintro r w4 ⟨A4, c4, rfl, -, -, hs4, hb4⟩
  have b4 := b3.later hb4
  have d4 := d3.below hb4 d3.lt
  have HC4 := Lib.hid (HC3.out.later hb4)
  have HS4 := Lib.hid hs4
  clear hb4 b3 d3 HC3 c0 l0 hs4
  have c0 := b4.box.cell
  have l0 := b4.box.lt
  go_wp2_with fail
  refine (HEP.out _ b4.on).mono ?_
  rw [HP1.out]
  by_cases hbig : 200 < e.length
  · rw [if_pos hbig]
    rintro r w5 ⟨A5, c5, rfl, hl5, hm5, hs5, hb5⟩
    have b5 := b4.later hb5
    have d5 := d4.below hb5 d4.lt
    have HC5 := Lib.hid (HC4.out.later hb5)
    clear hb5 b4 d4 HC4 c0 l0 hs5
    have c0 := d5.cell
    have l0 := d5.lt
    go_wp2_with fail
    refine (HEQ.out _ cs2 A2 cc2 HQ2.out HC5.out hll).mono ?_
    rw [HP2.out, if_pos hbig]
    rintro r w6 ⟨A6, c6, rfl, hl6, hm6, hs6, hb6⟩
    have b6 := b5.later hb6
    clear hb6 b5 d5 HC5 c0 l0 hs6 hbig
    go_wp2_with fail
    go_ret
    exact ⟨rfl, b6.on⟩
  · rw [if_neg hbig]
    rintro r w5 ⟨A5, c5, rfl, hl5, hm5, hs5, hb5⟩
    have b5 := b4.later hb5
    have d5 := d4.below hb5 d4.lt
    have HC5 := Lib.hid (HC4.out.later hb5)
    have HS4b := Lib.hid ((HS4.out.below hb5).more hb5.size)
    have HS5 := Lib.hid hs5
    clear hb5 b4 d4 HC4 c0 l0 hs5 HS4
    have c0 := d5.cell
    have l0 := d5.lt
    go_wp2_with fail
    refine (HEQ.out _ cs2 A2 cc2 HQ2.out HC5.out hll).mono ?_
    rw [HP2.out, if_neg hbig]
    rintro r w6 ⟨A6, c6, rfl, hl6, hm6, hs6, hb6⟩
    have b6 := b5.later hb6
    have HS4c := Lib.hid ((HS4b.out.below hb6).more hb6.size)
    have HS5b := Lib.hid ((HS5.out.below hb6).more hb6.size)
    have HS6 := Lib.hid hs6
    have HTE := Lib.hid (HT.out (by omega))
    have hle : e.length ≤ 200 := by omega
    clear hb6 b5 d5 HC5 c0 l0 hs6 hbig HS4b HS5
    go_wp2_with fail
    go_loopw [15, 19] (fun ev ii wr => ∃ (k : Nat) (Ae : Option Addr) (ce : Nat), ii = .int .i64 k ∧ ev = .slice Ae e.length ce ∧ k ≤ ss.length ∧ Hid (NsGood wr wr.heap.size ⟨Ae, ce, fillL who what e (ss.take k)⟩) ∧ RowKit.Below w6.heap.size w6 wr) (fun _ ii _ => ss.length - (intOf ii).toNat)
    case atStart => exact ⟨0, A5, c5, rfl, rfl, by omega, Lib.hid ⟨HS5b.out, hl5, hm5⟩, RowKit.Below.refl _ _⟩
    case round =>
      obtain ⟨k, Ae, ce, rfl, rfl, hk, HGk, hbr⟩ := hrel
      have hzr := hbr.size
      have br := b6.later hbr
      have c0 := br.u1.cell
      have c1 := br.u2.cell
      have l0 := br.u1.lt
      have l1 := br.u2.lt
      by_cases hlt : k < ss.length
      · obtain ⟨s, hx⟩ : ∃ s, ss[k]? = some s := ⟨_, List.getElem?_eq_getElem hlt⟩
        obtain ⟨b, o, rfl, hb, hcs⟩ := (HS4c.out.below hbr).at_ hlt
        have f0 : _ = some (Value.string ⟨s.toArray⟩) := hcs k s hx
        have hbw : b < wr.heap.size := by omega
        have HST := Lib.hid (fillL_step (who := who) (what := what) (e := e) hx)
        have HTK := Lib.hid (fillL_tree (who := who) (what := what) (ss := ss.take k) HTE.out fun s hs => HUD.out s (List.mem_of_mem_take hs))
        have HLK : Hid ((fillL who what e (ss.take k)).length = e.length) := fillL_len
        have HUS := Lib.hid (HUD.out s (List.mem_of_getElem? hx))
        have hsl2 : (⟨s.toArray⟩ : ByteArray).toList = s := by rw [ByteArray.toList_eq]
        clear hx hcs br
        generalize fillL who what e (ss.take k) = L at HGk HST HTK HLK
        by_cases hs : s = resL
        · subst hs
          have HUS2 : Hid (udErr what = 0) := by have := HUS.out; rw [if_pos rfl] at this; exact Lib.hid this
          have HST2 : Hid (fillL who what e (ss.take (k + 1)) = putL L ⟨resL.toArray⟩ [entN what]) := by have := HST.out; rw [if_pos rfl] at this; exact Lib.hid this
          have HS0 := Lib.hid (MS.new (T := 23) (u := what) f0 hbw)
          have HE := Lib.hid (fun W => r3_EntOf what W)
          have HPU : Hid (∀ W, RowKit.Below wr.heap.size wr W → ∀ A' c', NsGood W W.heap.size ⟨A', c', [entN what]⟩ → Calls Tryz.prog 9 #[.slice Ae e.length ce, .string ⟨resL.toArray⟩, .slice A' 1 c'] W fun r w' => NdsBack W r w' (putL L ⟨resL.toArray⟩ [entN what]) 0) := by
            intro W hW A' c' g
            have h := tree_Put L [entN what] ⟨resL.toArray⟩ Ae A' ce c' W HGk.out.le HGk.out.max (tree_ok HTK.out) (HGk.out.later hW).sl g.le g.max (tree_ok (ent_tree HUS2.out)) g.sl
            rw [put_one HTK.out (ent_tree HUS2.out)] at h
            rw [← HLK.out]
            exact h
          have HLP : Hid ((putL L ⟨resL.toArray⟩ [entN what]).length = e.length) := Lib.hid (by rw [putL_one_len]; exact HLK.out)
          generalize putL L ⟨resL.toArray⟩ [entN what] = L2 at HPU HST2 HLP
          go_wp2_with fail
          go_region_held3 (fun W => W.cell? ⟨wr.heap.size, 0, none⟩ = some (.string what.ty) ∧ W.cell? ⟨wr.heap.size, 1, none⟩ = some (.string what.id) ∧ W.cell? ⟨b, o + k, none⟩ = some (.string ⟨resL.toArray⟩) ∧ RowKit.Below wr.heap.size wr W ∧ wr.heap.size < W.heap.size) (first | exact HS0.out | exact MS.keep (by assumption) hb hbw)
            (first
              | (go_at_call 10; ((with_reducible refine (HE.out _).mono ?_)); rintro r W ⟨A7, c7, rfl, h71, h72, h73, hb⟩; have g7 := NsGood.of h73 h71 h72; have hW7 := (MS.on HS0.out).trans (hb.mono (MS.on HS0.out).size))
              | (go_at_call 9; ((with_reducible refine (HPU.out _ hW7 A7 c7 g7).mono ?_)); rintro r W ⟨A8, c8, rfl, h81, h82, h83, hb⟩; have g8 := NsGood.of h83 h81 h82; have hW8 := hW7.trans (hb.mono hW7.size)))
          have hWb : RowKit.Below wr.heap.size wr W := hW8
          have HG8 := Lib.hid g8
          clear g7 g8 h71 h72 h73 h81 h82 h83
          go_wp2_with fail
          exact ⟨⟨k + 1, A8, c8, by go_num, by rw [HLP.out], by omega, by rw [HST2.out]; exact HG8, hbr.trans (hWb.mono hbr.size)⟩, by simp [intOf]; omega⟩
        · skip
          have HUS2 : Hid (udErr who = 0) := by have := HUS.out; rw [if_neg hs] at this; exact Lib.hid this
          have HST2 : Hid (fillL who what e (ss.take (k + 1)) = putL L ⟨s.toArray⟩ [entN who]) := by have := HST.out; rw [if_neg hs] at this; exact Lib.hid this
          have hn1 : ¬ s = [63, 114, 101, 115, 111, 117, 114, 99, 101] := hs
          have hn2 : (s == [63, 114, 101, 115, 111, 117, 114, 99, 101]) = false := by simpa using hn1
          clear hs
          have HS0 := Lib.hid (MS.new (T := 23) (u := who) f0 hbw)
          have HE := Lib.hid (fun W => r3_EntOf who W)
          have HPU : Hid (∀ W, RowKit.Below wr.heap.size wr W → ∀ A' c', NsGood W W.heap.size ⟨A', c', [entN who]⟩ → Calls Tryz.prog 9 #[.slice Ae e.length ce, .string ⟨s.toArray⟩, .slice A' 1 c'] W fun r w' => NdsBack W r w' (putL L ⟨s.toArray⟩ [entN who]) 0) := by
            intro W hW A' c' g
            have h := tree_Put L [entN who] ⟨s.toArray⟩ Ae A' ce c' W HGk.out.le HGk.out.max (tree_ok HTK.out) (HGk.out.later hW).sl g.le g.max (tree_ok (ent_tree HUS2.out)) g.sl
            rw [put_one HTK.out (ent_tree HUS2.out)] at h
            rw [← HLK.out]
            exact h
          have HLP : Hid ((putL L ⟨s.toArray⟩ [entN who]).length = e.length) := Lib.hid (by rw [putL_one_len]; exact HLK.out)
          generalize putL L ⟨s.toArray⟩ [entN who] = L2 at HPU HST2 HLP
          go_wp2_with fail
          go_region_held3 (fun W => W.cell? ⟨wr.heap.size, 0, none⟩ = some (.string who.ty) ∧ W.cell? ⟨wr.heap.size, 1, none⟩ = some (.string who.id) ∧ W.cell? ⟨b, o + k, none⟩ = some (.string ⟨s.toArray⟩) ∧ RowKit.Below wr.heap.size wr W ∧ wr.heap.size < W.heap.size) (first | exact HS0.out | exact MS.keep (by assumption) hb hbw)
            (first
              | (go_at_call 10; ((with_reducible refine (HE.out _).mono ?_)); rintro r W ⟨A7, c7, rfl, h71, h72, h73, hb⟩; have g7 := NsGood.of h73 h71 h72; have hW7 := (MS.on HS0.out).trans (hb.mono (MS.on HS0.out).size))
              | (go_at_call 9; ((with_reducible refine (HPU.out _ hW7 A7 c7 g7).mono ?_)); rintro r W ⟨A8, c8, rfl, h81, h82, h83, hb⟩; have g8 := NsGood.of h83 h81 h82; have hW8 := hW7.trans (hb.mono hW7.size)))
          have hWb : RowKit.Below wr.heap.size wr W := hW8
          have HG8 := Lib.hid g8
          clear g7 g8 h71 h72 h73 h81 h82 h83
          go_wp2_with fail
          exact ⟨⟨k + 1, A8, c8, by go_num, by rw [HLP.out], by omega, by rw [HST2.out]; exact HG8, hbr.trans (hWb.mono hbr.size)⟩, by simp [intOf]; omega⟩
      · have HT9 : Hid (ss.take k = ss) := by show _ = _; rw [List.take_of_length_le (by omega)]
        rw [HT9.out, HLE.out] at HGk
        have HF6 := Lib.hid ((HS6.out.below hbr).more hbr.size)
        have hlf : f.length = e.length := by rw [← HLE.out, fillL_len]
        have HLF := Lib.hid hlf
        have HSM : Hid (Calls Tryz.prog 11 #[.slice Ae e.length ce, .slice A6 f.length c6] wr fun r w' => r = .returned (.bool true) ∧ RowKit.Below wr.heap.size wr w') := by
          have h := same_Nodes f Ae A6 ce c6 wr HGk.out.sl HF6.out (by omega)
          rw [← hlf]
          exact Lib.hid h
        clear hlf
        go_wp2_with fail
        refine HSM.out.mono ?_
        rintro r w8 ⟨rfl, hb8⟩
        have b8 := (b6.later hbr).later hb8
        clear hb8
        go_wp2_with fail
        go_ret
        exact ⟨rfl, b8.on⟩
end Go.Proofs.YtbommoefpekalaaGreat
