/-
  THE WALK of the law AuthApart.
-/
import Derived.Test.YtpheiojmcafolaaGreatDoorB22
import Derived.Maps.AppendAt
import Derived.Deep.RegionHeld3
namespace Go.Proofs.YtpheiojmcafolaaGreatDoor
set_option maxRecDepth 100000
open Go.RowKit Go.Sort
theorem pol_info : (Tryz.prog.info? 47).map (fun i => (i.zero, i.size, i.bytes)) = some (some (.agg #[.string ⟨#[]⟩, .bool false, .int .i64 0, .string ⟨#[]⟩, .string ⟨#[]⟩, .string ⟨#[]⟩, .int .i64 0, .string ⟨#[]⟩, .string ⟨#[]⟩, .string ⟨#[]⟩, .int .i64 0, .string ⟨#[]⟩, .string ⟨#[]⟩, .string ⟨#[]⟩, .slice none 0 0]), 15, 216) := by kernel_rfl
theorem cells_new_at (w : World) (l : List Value) (cs : Array Value) (t : TypeId) (h : cs.toList = l) : ∀ j u, l[j]? = some u → (w.alloc (.cells cs t)).cell? ((⟨w.heap.size, 0, none⟩ : Addr).add j) = some u := by
 intro j u hu
 rw [add_none, Nat.zero_add, World.cell?_alloc_new, ← hu, ← h, Array.getElem?_toList]
def Rd2 (b i : Nat) (v : Value) (b2 i2 : Nat) (v2 : Value) (w1 W : World) : Prop := W.cell? ⟨b, i, none⟩ = some v ∧ W.cell? ⟨b2, i2, none⟩ = some v2 ∧ RowKit.Below w1.heap.size w1 W
theorem Rd2.keep {b i b2 i2 : Nat} {v v2 : Value} {w1 W W' : World} (h : Rd2 b i v b2 i2 v2 w1 W) (hb : RowKit.Below W.heap.size W W') (hl : b < w1.heap.size) (hl2 : b2 < w1.heap.size) : Rd2 b i v b2 i2 v2 w1 W' :=
 ⟨(hb.cell (p := ⟨b, i, none⟩) (by have := h.2.2.size; show b < W.heap.size; omega)).trans h.1, (hb.cell (p := ⟨b2, i2, none⟩) (by have := h.2.2.size; show b2 < W.heap.size; omega)).trans h.2.1, h.2.2.trans (hb.mono h.2.2.size)⟩
theorem filt_next {α : Type} {f : α → Bool} {ps : List α} {k : Nat} {y : α} (h : ps[k]? = some y) : (ps.take (k + 1)).filter f = (ps.take k).filter f ++ (if f y = true then [y] else []) := by
 rw [List.take_add_one, h, List.filter_append]
 congr 1
 show List.filter f [y] = _
 by_cases e : f y = true <;> simp [e]
theorem askErr_filter {x : Aq} {ps : List PoM} {f : PoM → Bool} (h : askErr x ps = 0) : askErr x (ps.filter f) = 0 := by
 obtain ⟨h1, h2, h3⟩ := firstI_zero h
 have h4 : aErr (ps.filter f) = 0 := pick_ok h2
 unfold askErr firstI
 rw [if_neg (by simp [h1]), if_neg (by simp [h4]), h3]
set_option maxHeartbeats 12800000 in
theorem law_apart_bad (x : Aq) (ps : List PoM) (A : Option Addr) (c : Nat) (w : World) (hI : AqIn x w) (hP : PosIn w A ps) (hk : ¬ askErr x ps = 0) :
   Calls Tryz.prog 10 #[.slice x.Ea x.hs.length x.ec, .slice A ps.length c, .agg #[.string x.q.who.ty, .string x.q.who.id, .string x.q.act.ty, .string x.q.act.id, .string x.q.what.ty, .string x.q.what.id, .slice x.qa x.q.ctx.length x.qc]] w fun r w' => r = .returned (.bool true) ∧ RowKit.Below w.heap.size w w' := by
 have B0 := Lib.hid (Blk.new w 39 #[.string x.q.who.ty, .string x.q.who.id, .string x.q.act.ty, .string x.q.act.id, .string x.q.what.ty, .string x.q.what.id, .slice x.qa x.q.ctx.length x.qc])
 have h0 : RowKit.Below w.heap.size w (w.alloc (.cells #[.string x.q.who.ty, .string x.q.who.id, .string x.q.act.ty, .string x.q.act.id, .string x.q.what.ty, .string x.q.what.id, .slice x.qa x.q.ctx.length x.qc] 39)) := by (repeat (first | assumption | exact Below.refl _ _ | apply Below.drew | apply below_drewN | (refine Below.alloc ?_ (by first | exact Nat.le_refl _ | omega | (simp; done) | (simp; omega)) _)))
 have H0 := Lib.hid h0
 have HP := Lib.hid (law_permitted (w.alloc (.cells #[.string x.q.who.ty, .string x.q.who.id, .string x.q.act.ty, .string x.q.act.id, .string x.q.what.ty, .string x.q.what.id, .slice x.qa x.q.ctx.length x.qc] 39)) (hI.err.below h0 hI.err.lt))
 have HA := Lib.hid (fun W (hW : RowKit.Below w.heap.size w W) => auth_Ask_bad x ps A c W (hI.later hW) (hP.later hW) hk)
 unfold AnsBack at HA
 have tk : (askErr x ps != 0) = true := by simpa using hk
 generalize askErr x ps = k at HA tk
 clear hI hP hk h0
 go_enter Tryz.func10, Tryz.ntmps10
 go_wp2_with fail
 refine HP.out.mono ?_
 rintro r w1 ⟨rfl, hb1⟩
 have B1 := Lib.hid (B0.out.below hb1 B0.out.lt)
 have H1 := Lib.hid (H0.out.trans (hb1.mono H0.out.size))
 have cc := B1.out.cell
 have cl := B1.out.lt
 clear hb1
 go_wp2_with fail
 refine (HA.out w1 H1.out).mono ?_
 rintro r w2 ⟨A1, c1, A2, c2, rfl, _, _, _, _, _, _, hb2⟩
 have H2 := Lib.hid (H1.out.trans (hb2.mono H1.out.size))
 clear hb2 cc cl
 go_wp2_with fail
 go_ret
 exact ⟨rfl, H2.out.alloc H2.out.size _⟩
set_option maxHeartbeats 12800000 in
theorem law_apart_ok (x : Aq) (ps : List PoM) (A : Option Addr) (c : Nat) (w : World) (hI : AqIn x w) (hP : PosIn w A ps) (hk : askErr x ps = 0) :
   Calls Tryz.prog 10 #[.slice x.Ea x.hs.length x.ec, .slice A ps.length c, .agg #[.string x.q.who.ty, .string x.q.who.id, .string x.q.act.ty, .string x.q.act.id, .string x.q.what.ty, .string x.q.what.id, .slice x.qa x.q.ctx.length x.qc]] w fun r w' => r = .returned (.bool true) ∧ RowKit.Below w.heap.size w w' := by
 obtain ⟨j0, hj, hy0, hy1, hy2⟩ := info_parts pol_info
 obtain ⟨h12, -, hnd⟩ := aErr_use (firstI_zero hk).2.1
 have B0 := Lib.hid (Blk.new w 39 #[.string x.q.who.ty, .string x.q.who.id, .string x.q.act.ty, .string x.q.act.id, .string x.q.what.ty, .string x.q.what.id, .slice x.qa x.q.ctx.length x.qc])
 have h0 : RowKit.Below w.heap.size w (w.alloc (.cells #[.string x.q.who.ty, .string x.q.who.id, .string x.q.act.ty, .string x.q.act.id, .string x.q.what.ty, .string x.q.what.id, .slice x.qa x.q.ctx.length x.qc] 39)) := by (repeat (first | assumption | exact Below.refl _ _ | apply Below.drew | apply below_drewN | (refine Below.alloc ?_ (by first | exact Nat.le_refl _ | omega | (simp; done) | (simp; omega)) _)))
 have H0 := Lib.hid h0
 have HP := Lib.hid (law_permitted (w.alloc (.cells #[.string x.q.who.ty, .string x.q.who.id, .string x.q.act.ty, .string x.q.act.id, .string x.q.what.ty, .string x.q.what.id, .slice x.qa x.q.ctx.length x.qc] 39)) (hI.err.below h0 hI.err.lt))
 obtain ⟨vt, hvt⟩ : ∃ vt, vt = vtQ x.es x.q := ⟨_, rfl⟩
 obtain ⟨BY, hBY⟩ : ∃ q, byP nmQ fbQ vt ps = q := ⟨_, rfl⟩
 have hap := apart (nm := nmQ) (fb := fbQ) (vt := vt) hnd
 rw [hBY] at hap
 have HA := Lib.hid (fun W (hW : RowKit.Below w.heap.size w W) => auth_Ask_ok x ps A c W (hI.later hW) (hP.later hW) hk)
 have HB := Lib.hid (fun W (hW : RowKit.Below w.heap.size w W) A' c' (hp : PosIn W A' (ps.filter fun p => BY.contains (nmQ p))) => auth_Ask_ok x (ps.filter fun p => BY.contains (nmQ p)) A' c' W (hI.later hW) hp (askErr_filter hk))
 rw [← hvt] at HA HB
 rw [hBY] at HA
 rw [hap.1, hap.2.1, hap.2.2] at HB
 unfold AnsBack at HA HB
 rw [errV_zero] at HA HB
 have HPS := Lib.hid hP
 have HE := Lib.hid (fun W (s : ByteArray) A1 c1 (hs : StrSl W W.heap.size A1 BY) (hl : BY.length ≤ 9223372036854775807) => law_among s BY A1 c1 W hs hl)
 have HT := Lib.hid (fun W A1 A2 c1 c2 (h1 : StrSl W W.heap.size A1 BY) (h2 : StrSl W W.heap.size A2 BY) (h3 : BY.length ≤ 9223372036854775807) => same_Texts BY A1 A2 c1 c2 W h1 h2 h3)
 generalize allowP nmQ fbQ vt ps = OB at HA HB
 generalize wrongs nmQ vt ps = WR at HA
 obtain ⟨F, hF⟩ : ∃ F : PoM → Bool, F = fun p => BY.contains (nmQ p) := ⟨_, rfl⟩
 rw [← hF] at HB
 have HF : Hid (∀ p, F p = BY.contains (nmQ p)) := fun p => by rw [hF]
 clear hI hP hk h0 hap hBY hvt hF hnd
 go_enter Tryz.func10, Tryz.ntmps10
 go_wp2_with fail
 refine HP.out.mono ?_
 rintro r w1 ⟨rfl, hb1⟩
 have B1 := Lib.hid (B0.out.below hb1 B0.out.lt)
 have H1 := Lib.hid (H0.out.trans (hb1.mono H0.out.size))
 have cc := B1.out.cell
 have cl := B1.out.lt
 clear hb1
 go_wp2_with fail
 refine (HA.out w1 H1.out).mono ?_
 rintro r w2 ⟨A1, c1, A2, c2, rfl, n1, n2, n3, n4, s1, s2, hb2⟩
 have H2 := Lib.hid (H1.out.trans (hb2.mono H1.out.size))
 have B2 := Lib.hid ((B1.out.below hb2 B1.out.lt).alloc (.cells #[.bool OB, .slice A1 BY.length c1, .slice A2 WR.length c2] 70))
 have D2 := Lib.hid (Blk.new w2 70 #[.bool OB, .slice A1 BY.length c1, .slice A2 WR.length c2])
 have hal : RowKit.Below w2.heap.size w2 (w2.alloc (.cells #[.bool OB, .slice A1 BY.length c1, .slice A2 WR.length c2] 70)) := by (repeat (first | assumption | exact Below.refl _ _ | apply Below.drew | apply below_drewN | (refine Below.alloc ?_ (by first | exact Nat.le_refl _ | omega | (simp; done) | (simp; omega)) _)))
 have S1 := Lib.hid ((s1.below hal).more hal.size)
 have H3 := Lib.hid (H2.out.trans (hal.mono H2.out.size))
 have hbl : BY.length ≤ 9223372036854775807 := by omega
 clear hb2 cc cl s1 s2 hal n3 n4
 go_wp2_with fail
 generalize hw3 : w2.alloc (.cells #[.bool OB, .slice A1 BY.length c1, .slice A2 WR.length c2] 70) = w3 at B2 D2 S1 H3 ⊢
 have h23 : w2.heap.size < w3.heap.size := D2.out.lt
 clear hw3
 go_loopw [10, 11] (fun sv kk wr => ∃ k : Nat, kk = .int .i64 k ∧ k ≤ ps.length ∧ Hid (wr.ownsRow w3.heap.size 47 15 sv ((ps.take k).filter F).length (flatG PoM.cells ((ps.take k).filter F))) ∧ RowKit.Below w3.heap.size w3 wr) (fun _ kk _ => ps.length - (intOf kk).toNat)
 case atStart => exact ⟨0, rfl, by omega, World.ownsRow_nil _ _ _ _, RowKit.Below.refl _ _⟩
 case round =>
   obtain ⟨k, rfl, hk, HR, hbr⟩ := hrel
   have hzr := hbr.size
   have hwr : RowKit.Below w.heap.size w wr := H3.out.trans (hbr.mono H3.out.size)
   obtain ⟨-, As, cs, hsv, hcs, hcm, -⟩ := own_formG pom_ok HR.out
   subst hsv
   have D3 := D2.out.below hbr D2.out.lt
   by_cases hlt : k < ps.length
   · obtain ⟨y, hy⟩ : ∃ y, ps[k]? = some y := ⟨_, List.getElem?_eq_getElem hlt⟩
     obtain ⟨b, o, hA, hb, d0, d1, d2, d3, d4, d5, d6, d7, d8, d9, d10, d11, d12, d13, d14⟩ := poSl_cells (HPS.out.later hwr).sl hy
     subst hA
     have i1 : (0 : Int) ≤ (k : Int) := by omega
     have i2 : (k : Int) < (ps.length : Int) := by omega
     have HFS := Lib.hid (filt_next (f := F) hy)
     have hfl : ((ps.take k).filter F).length ≤ k := Nat.le_trans (List.length_filter_le _ _) (List.length_take_le _ _)
     have HFy : Hid (F y = BY.contains y.p.name.toList) := HF.out y
     have S2 := Lib.hid ((S1.out.below hbr).more hbr.size)
     have S2d : Hid (StrSl wr.drew wr.drew.heap.size A1 BY) := S2.out
     have hb2 : w2.heap.size < wr.heap.size := D3.lt
     have HS0 : Hid (Rd2 b (o + k * 15) (.string y.p.name) w2.heap.size 1 (.slice A1 BY.length c1) wr wr.drew) := Lib.hid ⟨d0, D3.cell 1, (RowKit.Below.refl _ _).drew⟩
     have HEy := Lib.hid (fun W (hs : StrSl W W.heap.size A1 BY) => HE.out W y.p.name A1 c1 hs hbl)
     generalize BY.contains y.p.name.toList = tb at HEy HFy
     generalize (ps.take k).filter F = Z at HR HFS hfl ⊢
     clear hy D3
     go_wp2_with fail
     go_region_held3 (fun W => W.cell? ⟨b, o + k * 15, none⟩ = some (.string y.p.name) ∧ W.cell? ⟨w2.heap.size, 1, none⟩ = some (.slice A1 BY.length c1) ∧ RowKit.Below wr.heap.size wr W) (first | exact HS0.out | exact Rd2.keep (by assumption) hb hb2)
       (first
         | (go_at_call 36; ((with_reducible refine (HEy.out _ S2d.out).mono ?_)); rintro r W ⟨rfl, rfl⟩))
     have hbd : RowKit.Below wr.heap.size wr wr.drew := (RowKit.Below.refl _ _).drew
     have HRd : Hid (wr.drew.ownsRow w3.heap.size 47 15 (.slice As Z.length cs) Z.length (flatG PoM.cells Z)) := own_later HR.out hbd
     have e0 : wr.drew.cell? ⟨b, o + k * 15, none⟩ = some (.string y.p.name) := d0
     have e1 : wr.drew.cell? ⟨b, o + k * 15 + 1, none⟩ = some (.bool y.p.forbid) := d1
     have e2 : wr.drew.cell? ⟨b, o + k * 15 + 2, none⟩ = some (.int .i64 y.p.who.op) := d2
     have e3 : wr.drew.cell? ⟨b, o + k * 15 + 3, none⟩ = some (.string y.p.who.ty) := d3
     have e4 : wr.drew.cell? ⟨b, o + k * 15 + 4, none⟩ = some (.string y.p.who.uid.ty) := d4
     have e5 : wr.drew.cell? ⟨b, o + k * 15 + 5, none⟩ = some (.string y.p.who.uid.id) := d5
     have e6 : wr.drew.cell? ⟨b, o + k * 15 + 6, none⟩ = some (.int .i64 y.p.act.op) := d6
     have e7 : wr.drew.cell? ⟨b, o + k * 15 + 7, none⟩ = some (.string y.p.act.ty) := d7
     have e8 : wr.drew.cell? ⟨b, o + k * 15 + 8, none⟩ = some (.string y.p.act.uid.ty) := d8
     have e9 : wr.drew.cell? ⟨b, o + k * 15 + 9, none⟩ = some (.string y.p.act.uid.id) := d9
     have e10 : wr.drew.cell? ⟨b, o + k * 15 + 10, none⟩ = some (.int .i64 y.p.what.op) := d10
     have e11 : wr.drew.cell? ⟨b, o + k * 15 + 11, none⟩ = some (.string y.p.what.ty) := d11
     have e12 : wr.drew.cell? ⟨b, o + k * 15 + 12, none⟩ = some (.string y.p.what.uid.ty) := d12
     have e13 : wr.drew.cell? ⟨b, o + k * 15 + 13, none⟩ = some (.string y.p.what.uid.id) := d13
     have e14 : wr.drew.cell? ⟨b, o + k * 15 + 14, none⟩ = some (.slice y.A y.cs.length y.c) := d14
     have hrs : w3.heap.size ≤ wr.drew.heap.size := hzr
     have hbrd : RowKit.Below w3.heap.size w3 wr.drew := hbr.drew
     generalize hwd : wr.drew = wd at hbd HRd e0 e1 e2 e3 e4 e5 e6 e7 e8 e9 e10 e11 e12 e13 e14 hrs hbrd ⊢
     have HBR := Lib.hid hbrd
     clear HR d0 d1 d2 d3 d4 d5 d6 d7 d8 d9 d10 d11 d12 d13 d14 hwd hbd hbrd HS0 S2d S2
     cases tb with
     | true =>
       have HZ : Hid ((ps.take (k + 1)).filter F = Z ++ [y]) := by show _ = _; rw [HFS.out, if_pos HFy.out]
       have HO1 : Hid ((wd.alloc (.cells #[.string y.p.name, .bool y.p.forbid, .int .i64 y.p.who.op, .string y.p.who.ty, .string y.p.who.uid.ty, .string y.p.who.uid.id, .int .i64 y.p.act.op, .string y.p.act.ty, .string y.p.act.uid.ty, .string y.p.act.uid.id, .int .i64 y.p.what.op, .string y.p.what.ty, .string y.p.what.uid.ty, .string y.p.what.uid.id, .slice y.A y.cs.length y.c] 47)).ownsRow w3.heap.size 47 15 (.slice As Z.length cs) Z.length (flatG PoM.cells Z)) := own_later HRd.out (by (repeat (first | assumption | exact Below.refl _ _ | apply Below.drew | apply below_drewN | (refine Below.alloc ?_ (by first | exact Nat.le_refl _ | omega | (simp; done) | (simp; omega)) _))))
       clear HFS HFy
       go_wp2_with (at_builtin; refine wpList_append_own_at _ rfl (.tmp 40) (.tmp 45) 67 rfl w3.heap.size 47 j0 _ 15 216 Tryz.underlying67 hj hy0 hy1 hy2 rfl (by omega) _ Z.length (flatG PoM.cells Z) rfl HO1.out ⟨wd.heap.size, 0, none⟩ 1 1 (PoM.cells y) rfl rfl (cells_new_at _ _ _ _ rfl) (pom_ok.one y) (by unfold maxLen; omega) (by omega) (by simp; omega) ?_; intro v6 w6 hown6 hgrow6 _ hloc6; obtain ⟨A6, c6, hv6, -⟩ := own_sl hown6; subst hv6; have HB6 : Hid (RowKit.Below w3.heap.size w3 w6) := (HBR.out.alloc HBR.out.size _).grown hgrow6 (by have := HBR.out.size; simp; omega) (fun q hq => (own_lt HO1.out hq).1); have HO6 := Lib.hid hown6; clear hown6 hgrow6 hloc6)
       exact ⟨⟨k + 1, by go_num, by omega, by rw [HZ.out, List.length_append, flatG_append, flatG_one]; exact HO6, HB6.out⟩, by simp [intOf]; omega⟩
     | false =>
       have HZ : Hid ((ps.take (k + 1)).filter F = Z) := by show _ = _; rw [HFS.out, if_neg (by rw [HFy.out]; simp), List.append_nil]
       clear HFS HFy
       go_wp2_with fail
       exact ⟨⟨k + 1, by go_num, by omega, by rw [HZ.out]; exact HRd, HBR.out⟩, by simp [intOf]; omega⟩
   · have HTK : Hid (ps.take k = ps) := by show _ = _; rw [List.take_of_length_le (by omega)]
     rw [HTK.out] at HR ⊢
     have HFL : Hid ((ps.filter F).length ≤ 12) := Nat.le_trans (List.length_filter_le _ _) h12
     have hmem : ∀ z ∈ ps.filter F, z ∈ ps := fun z hz => (List.mem_filter.1 hz).1
     generalize ps.filter F = Z at HR HB HFL hmem ⊢
     obtain ⟨-, As', cs', e1, l1, m1, hsl⟩ := own_formG pom_ok HR.out
     injection e1 with e1 _ e1'
     subst e1 e1'
     have HB4 := Lib.hid (HB.out wr hwr As cs ⟨hsl, fun z hz => (HPS.out.later hwr).each z (hmem z hz)⟩)
     have B3 := Lib.hid (B2.out.below hbr B2.out.lt)
     have D4 := Lib.hid (D2.out.below hbr D2.out.lt)
     have S3 := Lib.hid ((S1.out.below hbr).more hbr.size)
     have cc := B3.out.cell
     have cl := B3.out.lt
     clear hsl hmem HR D3 hbr
     go_wp2_with fail
     refine HB4.out.mono ?_
     rintro r w5 ⟨A5, c5, A6, c6, rfl, n1, n2, n3, n4, s5, s6, hb5⟩
     have l0 : ([] : List (List UInt8)).length = 0 := rfl
     rw [l0]
     have hal : RowKit.Below w5.heap.size w5 (w5.alloc (.cells #[.bool OB, .slice A5 BY.length c5, .slice A6 0 c6] 70)) := by (repeat (first | assumption | exact Below.refl _ _ | apply Below.drew | apply below_drewN | (refine Below.alloc ?_ (by first | exact Nat.le_refl _ | omega | (simp; done) | (simp; omega)) _)))
     have D5 := Lib.hid ((D4.out.below hb5 D4.out.lt).alloc (.cells #[.bool OB, .slice A5 BY.length c5, .slice A6 0 c6] 70))
     have E5 := Lib.hid (Blk.new w5 70 #[.bool OB, .slice A5 BY.length c5, .slice A6 0 c6])
     have S5 := Lib.hid ((s5.below hal).more hal.size)
     have S6 := Lib.hid ((((S3.out.below hb5).more hb5.size).below hal).more hal.size)
     have H5 := Lib.hid ((hwr.trans (hb5.mono hwr.size)).trans (hal.mono (hwr.trans (hb5.mono hwr.size)).size))
     have dc := D5.out.cell
     have ec := E5.out.cell
     have dl := D5.out.lt
     have el := E5.out.lt
     clear hb5 hal cc cl s5 s6 l0 n1 n2 n3 n4 S3 D4 B3
     go_wp2_with fail
     refine (HT.out _ A1 A5 c1 c5 S6.out S5.out hbl).mono ?_
     rintro r w6 ⟨rfl, hb6⟩
     have D6 := D5.out.below hb6 D5.out.lt
     have E6 := E5.out.below hb6 E5.out.lt
     have H6 := Lib.hid (H5.out.trans (hb6.mono H5.out.size))
     clear dc ec dl el hb6
     have dc := D6.cell
     have ec := E6.cell
     have dl := D6.lt
     have el := E6.lt
     have hob : (OB == OB) = true := by simp
     go_wp2_with fail
     go_ret
     exact ⟨rfl, H6.out⟩
theorem law_aapart (x : Aq) (ps : List PoM) (A : Option Addr) (c : Nat) (w : World) (hI : AqIn x w) (hP : PosIn w A ps) :
   Calls Tryz.prog 10 #[.slice x.Ea x.hs.length x.ec, .slice A ps.length c, .agg #[.string x.q.who.ty, .string x.q.who.id, .string x.q.act.ty, .string x.q.act.id, .string x.q.what.ty, .string x.q.what.id, .slice x.qa x.q.ctx.length x.qc]] w fun r w' => r = .returned (.bool true) ∧ RowKit.Below w.heap.size w w' := by
 by_cases hk : askErr x ps = 0
 · exact law_apart_ok x ps A c w hI hP hk
 · exact law_apart_bad x ps A c w hI hP hk
end Go.Proofs.YtpheiojmcafolaaGreatDoor
