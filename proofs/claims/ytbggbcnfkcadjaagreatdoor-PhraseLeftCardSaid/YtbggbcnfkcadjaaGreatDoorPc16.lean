/-
  THE WALK of the law PhraseLeft.
-/
import Derived.Test.YtbggbcnfkcadjaaGreatDoorPc15
namespace Go.Proofs.YtbggbcnfkcadjaaGreatDoor
set_option maxRecDepth 100000
open Go.RowKit Go.Sort
theorem dig_tok (i : Nat) (h : i < 10) : numT (i : Int) = [⟨2, bsOf [UInt8.ofNat (48 + i)], 0⟩] := by
 unfold numT
 rw [if_neg (by omega)]
 have : Lib.itoa (i : Int) = [UInt8.ofNat (48 + i)] := by
   unfold Lib.itoa
   rw [if_neg (by omega)]
   exact Lib.decDigits_one (i := i) h
 rw [this]
theorem dig_bk (i : Nat) (h : i < 10) : Bk [⟨2, bsOf [UInt8.ofNat (48 + i)], 0⟩] [numX i] 8 := by
 rw [← dig_tok i h]
 exact (bk_leaf (n := numX i) (num_shape i) (.inr (.inl rfl)) (fun _ => ⟨by show (-9223372036854775808 : Int) ≤ (i : Int); omega, by show (i : Int) ≤ _; omega⟩)).1
theorem dig_sp (i : Nat) (h : i < 10) : SpT ⟨2, bsOf [UInt8.ofNat (48 + i)], 0⟩ := by
 have : ∀ t ∈ leafT (numX i), SpT t := sp_leaf (num_shape i) (.inr (.inl rfl)) (fun _ => ⟨by show (-9223372036854775808 : Int) ≤ (i : Int); omega, by show (i : Int) ≤ _; omega⟩)
 refine this _ ?_
 show _ ∈ numT (i : Int)
 rw [dig_tok i h]; simp
theorem fact_lf : parseP [⟨2, bsOf [49], 0⟩, tSg [45], ⟨2, bsOf [50], 0⟩, tSg [45], ⟨2, bsOf [51], 0⟩] = ([⟨18, 0, ⟨#[]⟩, ⟨#[]⟩⟩, ⟨18, 0, ⟨#[]⟩, ⟨#[]⟩⟩, numX 1, numX 2, numX 3], 0, 0) := by
 refine parse_of (by simp) ?_ ?_ (by simp)
 · exact all_cons (dig_sp 1 (by decide)) (all_cons (sp_sg (by decide)) (all_cons (dig_sp 2 (by decide)) (all_cons (sp_sg (by decide)) (all_cons (dig_sp 3 (by decide)) all_nil))))
 · have := (left_sum (l := [45]) (.inr rfl) chOp_18 (by decide) (dig_bk 1 (by decide)) (dig_bk 2 (by decide)) (dig_bk 3 (by decide))).c0 [] (Fl.nil 0)
   rw [List.append_nil] at this
   exact this
theorem read_lf : (readP ⟨#[49, 32, 45, 32, 50, 32, 45, 32, 51]⟩).1.map bareTk = [⟨2, bsOf [49], 0⟩, tSg [45], ⟨2, bsOf [50], 0⟩, tSg [45], ⟨2, bsOf [51], 0⟩] ∧ (readP ⟨#[49, 32, 45, 32, 50, 32, 45, 32, 51]⟩).1.length ≤ 300 := by
 have e : (⟨#[49, 32, 45, 32, 50, 32, 45, 32, 51]⟩ : ByteArray).toList = [49, 32, 45, 32, 50, 32, 45, 32, 51] := bsOf_list _
 have h : readP ⟨#[49, 32, 45, 32, 50, 32, 45, 32, 51]⟩ = ([⟨2, bsOf [49], 0⟩, ⟨5, bsOf [45], 2⟩, ⟨2, bsOf [50], 4⟩, ⟨5, bsOf [45], 6⟩, ⟨2, bsOf [51], 8⟩], 0, 0) := by
   unfold readP
   rw [e, if_neg (by decide)]
   rfl
 rw [h]
 exact ⟨rfl, by simp⟩
theorem nds_lit (W : World) (ns : List Nd) (cs : Array Value) (h : cs.toList = flat ns) (hn : ns.length ≤ 1000) : (W.alloc (.cells cs 29)).ownsRow W.heap.size 29 4 (.slice (some ⟨W.heap.size, 0, none⟩) ns.length ns.length) ns.length (flat ns) := by
 have := World.ownsRow_lit (base := W.heap.size) (e := 29) (size := 4) W cs ns.length (Nat.le_refl _) (by unfold maxLen; omega) (by rw [← Array.length_toList, h, flat_len])
 rwa [h] at this
theorem small_tk {l : List UInt8} (k : Int) (h : l.length ≤ 60) : (⟨k, bsOf l, 0⟩ : Tk).s.size ≤ 140737488351232 := by show (bsOf l).size ≤ _; rw [bsOf_sz]; omega
theorem sigK_sz (k : Nat) : (tSg (sigK k)).s.size ≤ 140737488351232 := by
 match k with
 | 0 => exact small_tk 5 (by decide)
 | 1 => exact small_tk 5 (by decide)
 | 2 => exact small_tk 5 (by decide)
 | 3 => exact small_tk 5 (by decide)
 | _ + 4 => exact small_tk 5 (l := [42]) (by decide)
theorem br_sz {a : List Tk} (h : ∀ x ∈ a, x.s.size ≤ 140737488351232) : ∀ x ∈ Br a, x.s.size ≤ 140737488351232 := all_cons (small_tk 5 (by decide)) (all_app h (all_cons (small_tk 5 (by decide)) all_nil))
theorem blk_at {W : World} {g : Nat} (h : W.heap.size = g) (T : TypeId) (cs : Array Value) : Blk (W.alloc (.cells cs T)) g T cs := h ▸ Blk.new W T cs
theorem sig_cell {k : Nat} (h : k < 5) : (#[.string ⟨#[124, 124]⟩, .string ⟨#[38, 38]⟩, .string ⟨#[43]⟩, .string ⟨#[45]⟩, .string ⟨#[42]⟩] : Array Value)[k]? = some (.string (bsOf (sigK k))) := by
 match k with
 | 0 => rfl
 | 1 => rfl
 | 2 => rfl
 | 3 => rfl
 | 4 => rfl
theorem op_cell {k : Nat} (h : k < 5) : (#[.int .i64 12, .int .i64 11, .int .i64 17, .int .i64 18, .int .i64 19] : Array Value)[k]? = some (.int .i64 (opK k)) := by
 match k with
 | 0 => rfl
 | 1 => rfl
 | 2 => rfl
 | 3 => rfl
 | 4 => rfl
structure TkArg (w : World) (A : Option Addr) (c : Nat) (ts : List Tk) : Prop where
 sl : TkSl w w.heap.size A ts
 le : ts.length ≤ c
 max : c ≤ 9223372036854775807
 z : ∀ x ∈ ts, x.s.size ≤ 140737488351232
set_option maxHeartbeats 25600000 in
theorem law_left (a b c : List Tk) (A1 A2 A3 : Option Addr) (c1 c2 c3 : Nat) (n : Int) (w : World) (ha : TkArg w A1 c1 a) (hb : TkArg w A2 c2 b) (hc : TkArg w A3 c3 c) (hgl : GlC w) (hng : 9 ≤ w.heap.size) :
   Calls Tryz.prog 5 #[.slice A1 a.length c1, .slice A2 b.length c2, .slice A3 c.length c3, .int .i64 n] w fun r w' => r = .returned (.bool true) ∧ RowKit.Below w.heap.size w w' := by
 obtain ⟨i0, hi, hz0, hz1, hz2⟩ := info_parts tok_info
 obtain ⟨j0, hj, hy0, hy1, hy2⟩ := info_parts nd_info
 have HQK := Lib.hid (fun W => law_quick ⟨#[49, 32, 45, 32, 50, 32, 45, 32, 51]⟩ _ read_lf.1 read_lf.2 W (by decide))
 have HA := Lib.hid ha
 have HB := Lib.hid hb
 have HC := Lib.hid hc
 have HGL := Lib.hid hgl
 have HN1 := Lib.hid (fun W => law_num 1 W)
 have HN2 := Lib.hid (fun W => law_num 2 W)
 have HN3 := Lib.hid (fun W => law_num 3 W)
 clear ha hb hc hgl
 go_enter Tryz.func5, Tryz.ntmps5
 go_wp2_with fail
 refine (HQK.out w).mono ?_
 rintro r w1 ⟨Aq, cq, rfl, h1, hb1, h2, h3⟩
 have HB1 := Lib.hid hb1
 have HP := Lib.hid (phrase_Parse _ Aq cq w1 h2 h3 h1 (by intro x hx; simp only [List.mem_cons, List.not_mem_nil, or_false] at hx; rcases hx with rfl | rfl | rfl | rfl | rfl <;> exact small_tk _ (by decide)) (HGL.out.far hb1 hng) (Nat.le_trans hng hb1.size))
 rw [fact_lf] at HP
 clear h1 hb1 h2 h3 HQK
 go_wp2_with fail
 refine HP.out.mono ?_
 rintro r w2 ⟨Af, cf, rfl, h1, h2, h3, hb2⟩
 have HB2 := Lib.hid (HB1.out.trans (hb2.mono HB1.out.size))
 have H3 := Lib.hid h3
 clear h1 h2 h3 hb2 HP HB1
 go_wp2_with fail
 refine (HN1.out w2).mono ?_
 rintro r w3 ⟨rfl, hb3⟩
 go_wp2_with fail
 refine (HN2.out w3).mono ?_
 rintro r w4 ⟨rfl, hb4⟩
 go_wp2_with fail
 refine (HN3.out w4).mono ?_
 rintro r w5 ⟨rfl, hb5⟩
 have hb25 : RowKit.Below w2.heap.size w2 w5 := (hb3.trans (hb4.mono hb3.size)).trans (hb5.mono (by have := hb3.size; have := hb4.size; omega))
 have HB5 := Lib.hid (HB2.out.trans (hb25.mono HB2.out.size))
 have hlit := nds_lit w5 [⟨18, 0, ⟨#[]⟩, ⟨#[]⟩⟩, ⟨18, 0, ⟨#[]⟩, ⟨#[]⟩⟩, numX 1, numX 2, numX 3] #[.int .i64 18, .int .i64 0, .string ⟨#[]⟩, .string ⟨#[]⟩, .int .i64 18, .int .i64 0, .string ⟨#[]⟩, .string ⟨#[]⟩, .int .i64 2, .int .i64 1, .string ⟨#[]⟩, .string ⟨#[]⟩, .int .i64 2, .int .i64 2, .string ⟨#[]⟩, .string ⟨#[]⟩, .int .i64 2, .int .i64 3, .string ⟨#[]⟩, .string ⟨#[]⟩] rfl (by decide)
 obtain ⟨Al, cl, hvl, -, -, hsl, -⟩ := own_form_new hlit
 injection hvl with e1 e2 e3
 subst e1 e3
 have hb0 : RowKit.Below w5.heap.size w5 (w5.alloc (.cells #[.int .i64 18, .int .i64 0, .string ⟨#[]⟩, .string ⟨#[]⟩, .int .i64 18, .int .i64 0, .string ⟨#[]⟩, .string ⟨#[]⟩, .int .i64 2, .int .i64 1, .string ⟨#[]⟩, .string ⟨#[]⟩, .int .i64 2, .int .i64 2, .string ⟨#[]⟩, .string ⟨#[]⟩, .int .i64 2, .int .i64 3, .string ⟨#[]⟩, .string ⟨#[]⟩] 29)) := by (repeat (first | assumption | exact Below.refl _ _ | apply Below.drew | apply below_drewN | (refine Below.alloc ?_ (by first | exact Nat.le_refl _ | omega | (simp; done) | (simp; omega)) _)))
 have HSN := Lib.hid (same_Nodes [⟨18, 0, ⟨#[]⟩, ⟨#[]⟩⟩, ⟨18, 0, ⟨#[]⟩, ⟨#[]⟩⟩, numX 1, numX 2, numX 3] Af (some ⟨w5.heap.size, 0, none⟩) cf 5 _ (((H3.out.below hb25).below (hb0.mono hb25.size)).more (by have := hb25.size; simp; omega)) hsl (by simp))
 have HB6 := Lib.hid (HB5.out.trans (hb0.mono HB5.out.size))
 clear hb3 hb4 hb5 hb25 hlit hsl hb0 H3 HB2 HN1 HN2 HN3 e2
 go_wp2_with fail
 refine HSN.out.mono ?_
 rintro r w6 ⟨rfl, hb6⟩
 have HB7 := Lib.hid (HB6.out.trans (hb6.mono HB6.out.size))
 clear hb6 HSN HB5 HB6
 have HP0 := Lib.hid (phrase_Parse a A1 c1 w6 HA.out.le HA.out.max ((HA.out.sl.below HB7.out).more HB7.out.size) HA.out.z (HGL.out.far HB7.out hng) (Nat.le_trans hng HB7.out.size))
 obtain ⟨⟨x, i1, k1⟩, hq0⟩ : ∃ q, parseP a = q := ⟨_, rfl⟩
 rw [hq0] at HP0
 have HQ0 := Lib.hid hq0
 clear hq0
 go_wp2_with fail
 refine HP0.out.mono ?_
 rintro r w7 ⟨B0, d0, rfl, gm0, gx0, h3, hbb⟩
 have HBB0 := Lib.hid (HB7.out.trans (hbb.mono HB7.out.size))
 have HX0 : Hid (NdSl w7 w7.heap.size B0 x) := h3
 have gl0 : x.length ≤ d0 := gm0
 clear h3 hbb gx0 gm0 HP0 HB7 
 have HP1 := Lib.hid (phrase_Parse b A2 c2 w7 HB.out.le HB.out.max ((HB.out.sl.below HBB0.out).more HBB0.out.size) HB.out.z (HGL.out.far HBB0.out hng) (Nat.le_trans hng HBB0.out.size))
 obtain ⟨⟨y, i2, k2⟩, hq1⟩ : ∃ q, parseP b = q := ⟨_, rfl⟩
 rw [hq1] at HP1
 have HQ1 := Lib.hid hq1
 clear hq1
 go_wp2_with fail
 refine HP1.out.mono ?_
 rintro r w8 ⟨B1, d1, rfl, gm1, gx1, h3, hbb⟩
 have HBB1 := Lib.hid (HBB0.out.trans (hbb.mono HBB0.out.size))
 have HX1 : Hid (NdSl w8 w8.heap.size B1 y) := h3
 have HX0_1 : Hid (NdSl w8 w8.heap.size B0 x) := (HX0.out.below hbb).more hbb.size
 have gl1 : y.length ≤ d1 := gm1
 clear h3 hbb gx1 gm1 HP1 HBB0 HX0
 have HP2 := Lib.hid (phrase_Parse c A3 c3 w8 HC.out.le HC.out.max ((HC.out.sl.below HBB1.out).more HBB1.out.size) HC.out.z (HGL.out.far HBB1.out hng) (Nat.le_trans hng HBB1.out.size))
 obtain ⟨⟨z, i3, k3⟩, hq2⟩ : ∃ q, parseP c = q := ⟨_, rfl⟩
 rw [hq2] at HP2
 have HQ2 := Lib.hid hq2
 clear hq2
 go_wp2_with fail
 refine HP2.out.mono ?_
 rintro r w9 ⟨B2, d2, rfl, gm2, gx2, h3, hbb⟩
 have HBB2 := Lib.hid (HBB1.out.trans (hbb.mono HBB1.out.size))
 have HX2 : Hid (NdSl w9 w9.heap.size B2 z) := h3
 have HX0_2 : Hid (NdSl w9 w9.heap.size B0 x) := (HX0_1.out.below hbb).more hbb.size
 have HX1_2 : Hid (NdSl w9 w9.heap.size B1 y) := (HX1.out.below hbb).more hbb.size
 have gl2 : z.length ≤ d2 := gm2
 clear h3 hbb gx2 gm2 HP2 HBB1 HX0_1 HX1
 by_cases k10 : k1 = 0
 case neg =>
   have tk : (k1 != 0) = true := by simpa using k10
   clear k10
   go_wp2_with fail
   go_ret
   exact ⟨rfl, HBB2.out⟩
 case pos =>
 subst k10
 by_cases k20 : k2 = 0
 case neg =>
   have tk : (k2 != 0) = true := by simpa using k20
   clear k20
   go_wp2_with fail
   go_ret
   exact ⟨rfl, HBB2.out⟩
 case pos =>
 subst k20
 by_cases k30 : k3 = 0
 case neg =>
   have tk : (k3 != 0) = true := by simpa using k30
   clear k30
   go_wp2_with fail
   go_ret
   exact ⟨rfl, HBB2.out⟩
 case pos =>
 subst k30
 obtain ⟨la, -, -, le1, -⟩ := parse_ok HQ0.out
 obtain ⟨lb, -, -, le2, -⟩ := parse_ok HQ1.out
 obtain ⟨lc, -, -, le3, -⟩ := parse_ok HQ2.out
 have u1 : IntKind.wrap .i64 ((a.length : Int) + (b.length : Int)) = (a.length : Int) + (b.length : Int) := IntWalk.i64_in _ (by omega)
 have u2 : IntKind.wrap .i64 ((a.length : Int) + (b.length : Int) + (c.length : Int)) = (a.length : Int) + (b.length : Int) + (c.length : Int) := IntWalk.i64_in _ (by omega)
 have u3 : IntKind.wrap .i64 ((a.length : Int) + (b.length : Int) + (c.length : Int) + 8) = (a.length : Int) + (b.length : Int) + (c.length : Int) + 8 := IntWalk.i64_in _ (by omega)
 have v1 : IntKind.wrap .i64 ((x.length : Int) + (y.length : Int)) = (x.length : Int) + (y.length : Int) := IntWalk.i64_in _ (by omega)
 have v2 : IntKind.wrap .i64 ((x.length : Int) + (y.length : Int) + (z.length : Int)) = (x.length : Int) + (y.length : Int) + (z.length : Int) := IntWalk.i64_in _ (by omega)
 have v3 : IntKind.wrap .i64 ((x.length : Int) + (y.length : Int) + (z.length : Int) + 2) = (x.length : Int) + (y.length : Int) + (z.length : Int) + 2 := IntWalk.i64_in _ (by omega)
 by_cases h300 : a.length + b.length + c.length + 8 ≤ 300
 case neg =>
   have t300 : decide ((300 : Int) < (a.length : Int) + (b.length : Int) + (c.length : Int) + 8) = true := by simp; omega
   clear h300
   go_wp2_with fail
   go_ret
   exact ⟨rfl, HBB2.out⟩
 case pos =>
 have t300 : decide ((300 : Int) < (a.length : Int) + (b.length : Int) + (c.length : Int) + 8) = false := by simp; omega
 by_cases h200 : x.length + y.length + z.length + 2 ≤ 200
 case neg =>
   have t200 : decide ((200 : Int) < (x.length : Int) + (y.length : Int) + (z.length : Int) + 2) = true := by simp; omega
   clear h200 h300
   go_wp2_with fail
   go_ret
   exact ⟨rfl, HBB2.out⟩
 case pos =>
 have t200 : decide ((200 : Int) < (x.length : Int) + (y.length : Int) + (z.length : Int) + 2) = false := by simp; omega
 have HH3 := Lib.hid h300
 have HH2 := Lib.hid h200
 clear h300 h200
 by_cases hn0 : n < 0
 · have tn : decide (n < 0) = true := by simpa using hn0
   clear hn0
   go_wp2_with fail
   go_ret
   exact ⟨rfl, HBB2.out⟩
 have tn : decide (n < 0) = false := by simpa using hn0
 by_cases hn4 : 4 < n
 · have tn4 : decide (4 < n) = true := by simpa using hn4
   clear hn0 hn4
   go_wp2_with fail
   go_ret
   exact ⟨rfl, HBB2.out⟩
 have tn4 : decide (4 < n) = false := by simpa using hn4
 obtain ⟨k, rfl⟩ : ∃ k : Nat, n = (k : Int) := ⟨n.toNat, by omega⟩
 have hk5 : k < 5 := by omega
 obtain ⟨hnx, hna⟩ := parse_ne HQ0.out
 obtain ⟨hny, hnb⟩ := parse_ne HQ1.out
 obtain ⟨hnz, hnc⟩ := parse_ne HQ2.out
 obtain ⟨b1, o1, rfl, hb1, -⟩ := HA.out.sl hna
 obtain ⟨b2, o2, rfl, hb2, -⟩ := HB.out.sl hnb
 obtain ⟨b3, o3, rfl, hb3, -⟩ := HC.out.sl hnc
 obtain ⟨bx, ox, rfl, hbx, -⟩ := HX0_2.out hnx
 obtain ⟨by_, oy, rfl, hby, -⟩ := HX1_2.out hny
 obtain ⟨bz, oz, rfl, hbz, -⟩ := HX2.out hnz
 have HC1 := Lib.hid (fun W (hW : RowKit.Below w.heap.size w W) j u hu => SlG.flat tk_ok (HA.out.sl.below hW) j u hu)
 have HC2 := Lib.hid (fun W (hW : RowKit.Below w.heap.size w W) j u hu => SlG.flat tk_ok (HB.out.sl.below hW) j u hu)
 have HC3 := Lib.hid (fun W (hW : RowKit.Below w.heap.size w W) j u hu => SlG.flat tk_ok (HC.out.sl.below hW) j u hu)
 have HCx := Lib.hid (fun W (hW : RowKit.Below w9.heap.size w9 W) j u hu => NdSl.flat ((HX0_2.out.below hW).more hW.size) j u hu)
 have HCy := Lib.hid (fun W (hW : RowKit.Below w9.heap.size w9 W) j u hu => NdSl.flat ((HX1_2.out.below hW).more hW.size) j u hu)
 have HCz := Lib.hid (fun W (hW : RowKit.Below w9.heap.size w9 W) j u hu => NdSl.flat ((HX2.out.below hW).more hW.size) j u hu)
 have HZ : Hid (∀ t ∈ usL (sigK k) (Br a) (Br b) (Br c), t.s.size ≤ 140737488351232) := all_app (br_sz HA.out.z) (all_cons (sigK_sz k) (all_app (br_sz HB.out.z) (all_cons (sigK_sz k) (br_sz HC.out.z))))
 have hca := HA.out.le
 have hcb := HB.out.le
 have hcc := HC.out.le
 have hma := HA.out.max
 have hmb := HB.out.max
 have hmc := HC.out.max
 have h300 := HH3.out
 have h200 := HH2.out
 have k1 : (0 : Int) ≤ (k : Int) := by omega
 have k2 : (k : Int) < 5 := by omega
 clear hnx hna hny hnb hnz hnc hn0 hn4
 go_wp2_with fail
 generalize hwL : ((w9.alloc (.cells #[.string ⟨#[124, 124]⟩, .string ⟨#[38, 38]⟩, .string ⟨#[43]⟩, .string ⟨#[45]⟩, .string ⟨#[42]⟩] 9)).alloc (.cells #[.int .i64 12, .int .i64 11, .int .i64 17, .int .i64 18, .int .i64 19] 3)).alloc (.cells #[.slice (some ⟨b1, o1, none⟩) a.length c1, .slice (some ⟨b2, o2, none⟩) b.length c2, .slice (some ⟨b3, o3, none⟩) c.length c3] 23) = wL
 have BS : Hid (Blk wL w9.heap.size 9 #[.string ⟨#[124, 124]⟩, .string ⟨#[38, 38]⟩, .string ⟨#[43]⟩, .string ⟨#[45]⟩, .string ⟨#[42]⟩]) := by rw [← hwL]; exact ((Blk.new _ _ _).alloc _).alloc _
 have BO : Hid (Blk wL (w9.heap.size + 1) 3 #[.int .i64 12, .int .i64 11, .int .i64 17, .int .i64 18, .int .i64 19]) := by rw [← hwL]; exact (blk_at (by simp) _ _).alloc _
 have BP : Hid (Blk wL (w9.heap.size + 1 + 1) 23 #[.slice (some ⟨b1, o1, none⟩) a.length c1, .slice (some ⟨b2, o2, none⟩) b.length c2, .slice (some ⟨b3, o3, none⟩) c.length c3]) := by rw [← hwL]; exact blk_at (by simp) _ _
 have hb9 : RowKit.Below w9.heap.size w9 wL := by rw [← hwL]; exact (((RowKit.Below.refl _ _).alloc (Nat.le_refl _) _).alloc (by simp) _).alloc (by simp; omega) _
 have hzL : w9.heap.size + 3 = wL.heap.size := by rw [← hwL]; simp
 have HB9 := Lib.hid hb9
 have HBL := Lib.hid (HBB2.out.trans (hb9.mono HBB2.out.size))
 have hz0' := HBB2.out.size
 clear hwL hb9
 go_loopw [24, 26] (fun sv kk wr => ∃ (i : Int) (L : List Tk), kk = .int .i64 i ∧ (i = 0 ∧ L = [] ∨ i = 1 ∧ L = Br a ∨ i = 2 ∧ L = Br a ++ tSg (sigK k) :: Br b ∨ i = 3 ∧ L = usL (sigK k) (Br a) (Br b) (Br c)) ∧ Hid (wr.ownsRow wL.heap.size 42 3 sv L.length (flatG Tk.cells L)) ∧ RowKit.Below wL.heap.size wL wr) (fun _ kk _ => 3 - (intOf kk).toNat)
 case atStart => exact ⟨0, [], rfl, .inl ⟨rfl, rfl⟩, World.ownsRow_nil _ _ _ _, RowKit.Below.refl _ _⟩
 case round =>
   obtain ⟨i, L, rfl, hiL, HR, hbr⟩ := hrel
   have hzr := hbr.size
   obtain ⟨-, As, cs, hsv, hcs, hcm, -⟩ := own_formG tk_ok HR.out
   subst hsv
   have HBr := Lib.hid hbr
   have csg : wr.cell? ⟨w9.heap.size, k, none⟩ = some (.string (bsOf (sigK k))) := by
     rw [(BS.out.below hbr BS.out.lt).cell k]
     exact sig_cell hk5
   have cop : wr.cell? ⟨w9.heap.size + 1, k, none⟩ = some (.int .i64 (opK k)) := by
     rw [(BO.out.below hbr BO.out.lt).cell k]
     exact op_cell hk5
   have HO := Lib.hid cop
   rcases hiL with ⟨rfl, hL⟩ | ⟨rfl, hL⟩ | ⟨rfl, hL⟩ | ⟨rfl, hL⟩
   · have HL := Lib.hid hL
     have hll : L.length ≤ 0 := by rw [hL]; simp
     clear hL
     have HWr : Hid (RowKit.Below w.heap.size w wr) := HBL.out.trans (HBr.out.mono HBL.out.size)
     have HR1 : Hid ((wr.alloc (.cells #[.int .i64 5, .string (⟨#[40]⟩), .int .i64 0] 42)).ownsRow wL.heap.size 42 3 (.slice As L.length cs) L.length (flatG Tk.cells L)) := own_keep HR.out (by (repeat (first | assumption | exact Below.refl _ _ | apply Below.drew | apply below_drewN | (refine Below.alloc ?_ (by first | exact Nat.le_refl _ | omega | (simp; done) | (simp; omega)) _))))
     go_wp2_with (first | (at_builtin; refine wpList_append_own _ rfl (.tmp 133) (.tmp 135) 23 rfl wL.heap.size 42 i0 _ 3 32 Tryz.underlying23 hi hz0 hz1 hz2 rfl (by omega) (.slice As (L.length) cs) (L.length) (flatG Tk.cells (L)) rfl HR1.out ⟨wr.heap.size, 0, none⟩ 1 1 (flatG Tk.cells [tSg [40]]) rfl rfl (new_flatG wr _ (tSg [40]) _ rfl _ rfl) (flatG_cell tk_ok [tSg [40]]) (by unfold maxLen; omega) (by omega) (by have := HBr.out.size; simp; omega) ?_; intro v2 u2 hown2 hgrow2 _; rw [← flatG_append] at hown2; obtain ⟨E2, k2q, hv2, hc2⟩ := own_sl hown2; subst hv2; have HR2' := Lib.hid hown2; have HB2 : Hid (RowKit.Below wL.heap.size wL u2) := (HBr.out.alloc HBr.out.size _).grown hgrow2 (by have := HBr.out.size; simp; omega) (fun q hq => (own_lt HR1.out hq).1); have cpt : u2.cell? ⟨w9.heap.size + 1 + 1, 0, none⟩ = some (.slice (some ⟨b1, o1, none⟩) a.length c1) := (BP.out.below HB2.out BP.out.lt).cell 0; clear hown2 hgrow2) | (at_builtin; refine wpList_append_own _ rfl (.tmp 137) (.tmp 141) 23 rfl wL.heap.size 42 i0 _ 3 32 Tryz.underlying23 hi hz0 hz1 hz2 rfl (by omega) (.slice E2 (L.length + 1) k2q) (L.length + 1) (flatG Tk.cells (L ++ [tSg [40]])) rfl HR2'.out ⟨b1, o1, none⟩ a.length c1 (flatG Tk.cells a) rfl (flatG_len tk_ok a) (HC1.out u2 (HBL.out.trans (HB2.out.mono HBL.out.size))) (flatG_cell tk_ok a) (by unfold maxLen; omega) (by omega) HB2.out.size ?_; intro v3 u3 hown3 hgrow3 _; rw [← flatG_append] at hown3; obtain ⟨E3, k3q, hv3, hc3⟩ := own_sl hown3; subst hv3; have HB3 : Hid (RowKit.Below wL.heap.size wL u3) := HB2.out.grown hgrow3 HB2.out.size (fun q hq => (own_lt HR2'.out hq).1); have HR3 : Hid ((u3.alloc (.cells #[.int .i64 5, .string (⟨#[41]⟩), .int .i64 0] 42)).ownsRow wL.heap.size 42 3 (.slice E3 (L.length + 1 + a.length) k3q) (L.length + 1 + a.length) (flatG Tk.cells (L ++ [tSg [40]] ++ a))) := own_keep hown3 (by (repeat (first | assumption | exact Below.refl _ _ | apply Below.drew | apply below_drewN | (refine Below.alloc ?_ (by first | exact Nat.le_refl _ | omega | (simp; done) | (simp; omega)) _)))); clear hown3 hgrow3) | (at_builtin; refine wpList_append_own _ rfl (.tmp 143) (.tmp 145) 23 rfl wL.heap.size 42 i0 _ 3 32 Tryz.underlying23 hi hz0 hz1 hz2 rfl (by omega) (.slice E3 (L.length + 1 + a.length) k3q) (L.length + 1 + a.length) (flatG Tk.cells (L ++ [tSg [40]] ++ a)) rfl HR3.out ⟨u3.heap.size, 0, none⟩ 1 1 (flatG Tk.cells [tSg [41]]) rfl rfl (new_flatG u3 _ (tSg [41]) _ rfl _ rfl) (flatG_cell tk_ok [tSg [41]]) (by unfold maxLen; omega) (by omega) (by have := HB3.out.size; simp; omega) ?_; intro v4 u4 hown4 hgrow4 _; rw [← flatG_append] at hown4; obtain ⟨E4, k4q, hv4, hc4⟩ := own_sl hown4; subst hv4; have HR4' := Lib.hid hown4; have HB4 : Hid (RowKit.Below wL.heap.size wL u4) := (HB3.out.alloc HB3.out.size _).grown hgrow4 (by have := HB3.out.size; simp; omega) (fun q hq => (own_lt HR3.out hq).1); clear hown4 hgrow4))
     have hnew : L ++ [tSg [40]] ++ a ++ [tSg [41]] = Br a := by rw [HL.out]; simp [Br]
     have hlen : L.length + 1 + a.length + 1 = (Br a).length := by rw [← hnew]; simp; omega
     rw [hnew, hlen] at HR4'
     rw [hlen]
     exact ⟨⟨1, Br a, rfl, .inr (.inl ⟨rfl, rfl⟩), HR4', HB4.out⟩, by simp [intOf]⟩
   · have HL := Lib.hid hL
     have hll : L.length ≤ a.length + 2 := by rw [hL]; simp [br_len]
     clear hL
     have HWr : Hid (RowKit.Below w.heap.size w wr) := HBL.out.trans (HBr.out.mono HBL.out.size)
     have HR0 : Hid ((wr.alloc (.cells #[.int .i64 5, .string (bsOf (sigK k)), .int .i64 0] 42)).ownsRow wL.heap.size 42 3 (.slice As L.length cs) L.length (flatG Tk.cells L)) := own_keep HR.out (by (repeat (first | assumption | exact Below.refl _ _ | apply Below.drew | apply below_drewN | (refine Below.alloc ?_ (by first | exact Nat.le_refl _ | omega | (simp; done) | (simp; omega)) _))))
     go_wp2_with (first | (at_builtin; refine wpList_append_own _ rfl (.tmp 125) (.tmp 131) 23 rfl wL.heap.size 42 i0 _ 3 32 Tryz.underlying23 hi hz0 hz1 hz2 rfl (by omega) (.slice As (L.length) cs) (L.length) (flatG Tk.cells (L)) rfl HR0.out ⟨wr.heap.size, 0, none⟩ 1 1 (flatG Tk.cells [tSg (sigK k)]) rfl rfl (new_flatG wr _ (tSg (sigK k)) _ rfl _ rfl) (flatG_cell tk_ok [tSg (sigK k)]) (by unfold maxLen; omega) (by omega) (by have := HBr.out.size; simp; omega) ?_; intro v1 u1 hown1 hgrow1 _; rw [← flatG_append] at hown1; obtain ⟨E1, k1q, hv1, hc1⟩ := own_sl hown1; subst hv1; have HR1' := Lib.hid hown1; have HB1 : Hid (RowKit.Below wL.heap.size wL u1) := (HBr.out.alloc HBr.out.size _).grown hgrow1 (by have := HBr.out.size; simp; omega) (fun q hq => (own_lt HR0.out hq).1); have HR1 : Hid ((u1.alloc (.cells #[.int .i64 5, .string (⟨#[40]⟩), .int .i64 0] 42)).ownsRow wL.heap.size 42 3 (.slice E1 (L.length + 1) k1q) (L.length + 1) (flatG Tk.cells (L ++ [tSg (sigK k)]))) := own_keep HR1'.out (by (repeat (first | assumption | exact Below.refl _ _ | apply Below.drew | apply below_drewN | (refine Below.alloc ?_ (by first | exact Nat.le_refl _ | omega | (simp; done) | (simp; omega)) _)))); clear hown1 hgrow1) | (at_builtin; refine wpList_append_own _ rfl (.tmp 133) (.tmp 135) 23 rfl wL.heap.size 42 i0 _ 3 32 Tryz.underlying23 hi hz0 hz1 hz2 rfl (by omega) (.slice E1 (L.length + 1) k1q) (L.length + 1) (flatG Tk.cells (L ++ [tSg (sigK k)])) rfl HR1.out ⟨u1.heap.size, 0, none⟩ 1 1 (flatG Tk.cells [tSg [40]]) rfl rfl (new_flatG u1 _ (tSg [40]) _ rfl _ rfl) (flatG_cell tk_ok [tSg [40]]) (by unfold maxLen; omega) (by omega) (by have := HB1.out.size; simp; omega) ?_; intro v2 u2 hown2 hgrow2 _; rw [← flatG_append] at hown2; obtain ⟨E2, k2q, hv2, hc2⟩ := own_sl hown2; subst hv2; have HR2' := Lib.hid hown2; have HB2 : Hid (RowKit.Below wL.heap.size wL u2) := (HB1.out.alloc HB1.out.size _).grown hgrow2 (by have := HB1.out.size; simp; omega) (fun q hq => (own_lt HR1.out hq).1); have cpt : u2.cell? ⟨w9.heap.size + 1 + 1, 1, none⟩ = some (.slice (some ⟨b2, o2, none⟩) b.length c2) := (BP.out.below HB2.out BP.out.lt).cell 1; clear hown2 hgrow2) | (at_builtin; refine wpList_append_own _ rfl (.tmp 137) (.tmp 141) 23 rfl wL.heap.size 42 i0 _ 3 32 Tryz.underlying23 hi hz0 hz1 hz2 rfl (by omega) (.slice E2 (L.length + 1 + 1) k2q) (L.length + 1 + 1) (flatG Tk.cells (L ++ [tSg (sigK k)] ++ [tSg [40]])) rfl HR2'.out ⟨b2, o2, none⟩ b.length c2 (flatG Tk.cells b) rfl (flatG_len tk_ok b) (HC2.out u2 (HBL.out.trans (HB2.out.mono HBL.out.size))) (flatG_cell tk_ok b) (by unfold maxLen; omega) (by omega) HB2.out.size ?_; intro v3 u3 hown3 hgrow3 _; rw [← flatG_append] at hown3; obtain ⟨E3, k3q, hv3, hc3⟩ := own_sl hown3; subst hv3; have HB3 : Hid (RowKit.Below wL.heap.size wL u3) := HB2.out.grown hgrow3 HB2.out.size (fun q hq => (own_lt HR2'.out hq).1); have HR3 : Hid ((u3.alloc (.cells #[.int .i64 5, .string (⟨#[41]⟩), .int .i64 0] 42)).ownsRow wL.heap.size 42 3 (.slice E3 (L.length + 1 + 1 + b.length) k3q) (L.length + 1 + 1 + b.length) (flatG Tk.cells (L ++ [tSg (sigK k)] ++ [tSg [40]] ++ b))) := own_keep hown3 (by (repeat (first | assumption | exact Below.refl _ _ | apply Below.drew | apply below_drewN | (refine Below.alloc ?_ (by first | exact Nat.le_refl _ | omega | (simp; done) | (simp; omega)) _)))); clear hown3 hgrow3) | (at_builtin; refine wpList_append_own _ rfl (.tmp 143) (.tmp 145) 23 rfl wL.heap.size 42 i0 _ 3 32 Tryz.underlying23 hi hz0 hz1 hz2 rfl (by omega) (.slice E3 (L.length + 1 + 1 + b.length) k3q) (L.length + 1 + 1 + b.length) (flatG Tk.cells (L ++ [tSg (sigK k)] ++ [tSg [40]] ++ b)) rfl HR3.out ⟨u3.heap.size, 0, none⟩ 1 1 (flatG Tk.cells [tSg [41]]) rfl rfl (new_flatG u3 _ (tSg [41]) _ rfl _ rfl) (flatG_cell tk_ok [tSg [41]]) (by unfold maxLen; omega) (by omega) (by have := HB3.out.size; simp; omega) ?_; intro v4 u4 hown4 hgrow4 _; rw [← flatG_append] at hown4; obtain ⟨E4, k4q, hv4, hc4⟩ := own_sl hown4; subst hv4; have HR4' := Lib.hid hown4; have HB4 : Hid (RowKit.Below wL.heap.size wL u4) := (HB3.out.alloc HB3.out.size _).grown hgrow4 (by have := HB3.out.size; simp; omega) (fun q hq => (own_lt HR3.out hq).1); clear hown4 hgrow4))
     have hnew : L ++ [tSg (sigK k)] ++ [tSg [40]] ++ b ++ [tSg [41]] = Br a ++ tSg (sigK k) :: Br b := by rw [HL.out]; simp [Br]
     have hlen : L.length + 1 + 1 + b.length + 1 = (Br a ++ tSg (sigK k) :: Br b).length := by rw [← hnew]; simp; omega
     rw [hnew, hlen] at HR4'
     rw [hlen]
     exact ⟨⟨2, Br a ++ tSg (sigK k) :: Br b, rfl, .inr (.inr (.inl ⟨rfl, rfl⟩)), HR4', HB4.out⟩, by simp [intOf]⟩
   · have HL := Lib.hid hL
     have hll : L.length ≤ a.length + b.length + 5 := by rw [hL]; simp [br_len]; omega
     clear hL
     have HWr : Hid (RowKit.Below w.heap.size w wr) := HBL.out.trans (HBr.out.mono HBL.out.size)
     have HR0 : Hid ((wr.alloc (.cells #[.int .i64 5, .string (bsOf (sigK k)), .int .i64 0] 42)).ownsRow wL.heap.size 42 3 (.slice As L.length cs) L.length (flatG Tk.cells L)) := own_keep HR.out (by (repeat (first | assumption | exact Below.refl _ _ | apply Below.drew | apply below_drewN | (refine Below.alloc ?_ (by first | exact Nat.le_refl _ | omega | (simp; done) | (simp; omega)) _))))
     go_wp2_with (first | (at_builtin; refine wpList_append_own _ rfl (.tmp 125) (.tmp 131) 23 rfl wL.heap.size 42 i0 _ 3 32 Tryz.underlying23 hi hz0 hz1 hz2 rfl (by omega) (.slice As (L.length) cs) (L.length) (flatG Tk.cells (L)) rfl HR0.out ⟨wr.heap.size, 0, none⟩ 1 1 (flatG Tk.cells [tSg (sigK k)]) rfl rfl (new_flatG wr _ (tSg (sigK k)) _ rfl _ rfl) (flatG_cell tk_ok [tSg (sigK k)]) (by unfold maxLen; omega) (by omega) (by have := HBr.out.size; simp; omega) ?_; intro v1 u1 hown1 hgrow1 _; rw [← flatG_append] at hown1; obtain ⟨E1, k1q, hv1, hc1⟩ := own_sl hown1; subst hv1; have HR1' := Lib.hid hown1; have HB1 : Hid (RowKit.Below wL.heap.size wL u1) := (HBr.out.alloc HBr.out.size _).grown hgrow1 (by have := HBr.out.size; simp; omega) (fun q hq => (own_lt HR0.out hq).1); have HR1 : Hid ((u1.alloc (.cells #[.int .i64 5, .string (⟨#[40]⟩), .int .i64 0] 42)).ownsRow wL.heap.size 42 3 (.slice E1 (L.length + 1) k1q) (L.length + 1) (flatG Tk.cells (L ++ [tSg (sigK k)]))) := own_keep HR1'.out (by (repeat (first | assumption | exact Below.refl _ _ | apply Below.drew | apply below_drewN | (refine Below.alloc ?_ (by first | exact Nat.le_refl _ | omega | (simp; done) | (simp; omega)) _)))); clear hown1 hgrow1) | (at_builtin; refine wpList_append_own _ rfl (.tmp 133) (.tmp 135) 23 rfl wL.heap.size 42 i0 _ 3 32 Tryz.underlying23 hi hz0 hz1 hz2 rfl (by omega) (.slice E1 (L.length + 1) k1q) (L.length + 1) (flatG Tk.cells (L ++ [tSg (sigK k)])) rfl HR1.out ⟨u1.heap.size, 0, none⟩ 1 1 (flatG Tk.cells [tSg [40]]) rfl rfl (new_flatG u1 _ (tSg [40]) _ rfl _ rfl) (flatG_cell tk_ok [tSg [40]]) (by unfold maxLen; omega) (by omega) (by have := HB1.out.size; simp; omega) ?_; intro v2 u2 hown2 hgrow2 _; rw [← flatG_append] at hown2; obtain ⟨E2, k2q, hv2, hc2⟩ := own_sl hown2; subst hv2; have HR2' := Lib.hid hown2; have HB2 : Hid (RowKit.Below wL.heap.size wL u2) := (HB1.out.alloc HB1.out.size _).grown hgrow2 (by have := HB1.out.size; simp; omega) (fun q hq => (own_lt HR1.out hq).1); have cpt : u2.cell? ⟨w9.heap.size + 1 + 1, 2, none⟩ = some (.slice (some ⟨b3, o3, none⟩) c.length c3) := (BP.out.below HB2.out BP.out.lt).cell 2; clear hown2 hgrow2) | (at_builtin; refine wpList_append_own _ rfl (.tmp 137) (.tmp 141) 23 rfl wL.heap.size 42 i0 _ 3 32 Tryz.underlying23 hi hz0 hz1 hz2 rfl (by omega) (.slice E2 (L.length + 1 + 1) k2q) (L.length + 1 + 1) (flatG Tk.cells (L ++ [tSg (sigK k)] ++ [tSg [40]])) rfl HR2'.out ⟨b3, o3, none⟩ c.length c3 (flatG Tk.cells c) rfl (flatG_len tk_ok c) (HC3.out u2 (HBL.out.trans (HB2.out.mono HBL.out.size))) (flatG_cell tk_ok c) (by unfold maxLen; omega) (by omega) HB2.out.size ?_; intro v3 u3 hown3 hgrow3 _; rw [← flatG_append] at hown3; obtain ⟨E3, k3q, hv3, hc3⟩ := own_sl hown3; subst hv3; have HB3 : Hid (RowKit.Below wL.heap.size wL u3) := HB2.out.grown hgrow3 HB2.out.size (fun q hq => (own_lt HR2'.out hq).1); have HR3 : Hid ((u3.alloc (.cells #[.int .i64 5, .string (⟨#[41]⟩), .int .i64 0] 42)).ownsRow wL.heap.size 42 3 (.slice E3 (L.length + 1 + 1 + c.length) k3q) (L.length + 1 + 1 + c.length) (flatG Tk.cells (L ++ [tSg (sigK k)] ++ [tSg [40]] ++ c))) := own_keep hown3 (by (repeat (first | assumption | exact Below.refl _ _ | apply Below.drew | apply below_drewN | (refine Below.alloc ?_ (by first | exact Nat.le_refl _ | omega | (simp; done) | (simp; omega)) _)))); clear hown3 hgrow3) | (at_builtin; refine wpList_append_own _ rfl (.tmp 143) (.tmp 145) 23 rfl wL.heap.size 42 i0 _ 3 32 Tryz.underlying23 hi hz0 hz1 hz2 rfl (by omega) (.slice E3 (L.length + 1 + 1 + c.length) k3q) (L.length + 1 + 1 + c.length) (flatG Tk.cells (L ++ [tSg (sigK k)] ++ [tSg [40]] ++ c)) rfl HR3.out ⟨u3.heap.size, 0, none⟩ 1 1 (flatG Tk.cells [tSg [41]]) rfl rfl (new_flatG u3 _ (tSg [41]) _ rfl _ rfl) (flatG_cell tk_ok [tSg [41]]) (by unfold maxLen; omega) (by omega) (by have := HB3.out.size; simp; omega) ?_; intro v4 u4 hown4 hgrow4 _; rw [← flatG_append] at hown4; obtain ⟨E4, k4q, hv4, hc4⟩ := own_sl hown4; subst hv4; have HR4' := Lib.hid hown4; have HB4 : Hid (RowKit.Below wL.heap.size wL u4) := (HB3.out.alloc HB3.out.size _).grown hgrow4 (by have := HB3.out.size; simp; omega) (fun q hq => (own_lt HR3.out hq).1); clear hown4 hgrow4))
     have hnew : L ++ [tSg (sigK k)] ++ [tSg [40]] ++ c ++ [tSg [41]] = usL (sigK k) (Br a) (Br b) (Br c) := by rw [HL.out]; simp [Br, usL]
     have hlen : L.length + 1 + 1 + c.length + 1 = (usL (sigK k) (Br a) (Br b) (Br c)).length := by rw [← hnew]; simp; omega
     rw [hnew, hlen] at HR4'
     rw [hlen]
     exact ⟨⟨3, usL (sigK k) (Br a) (Br b) (Br c), rfl, .inr (.inr (.inr ⟨rfl, rfl⟩)), HR4', HB4.out⟩, by simp [intOf]⟩
   · have HE := left_plain k HQ0.out HQ1.out HQ2.out HH3.out HH2.out
     rw [← hL] at HE HZ
     clear hL
     obtain ⟨hn7, hc8, hm8, hs8⟩ := toks_form HR.out
     have HWr : Hid (RowKit.Below w.heap.size w wr) := HBL.out.trans (HBr.out.mono HBL.out.size)
     obtain ⟨E, hE⟩ : ∃ E, E = opX (opK k) (opX (opK k) (x ++ y) ++ z) := ⟨_, rfl⟩
     rw [← hE] at HE
     have hel : E.length = 2 + x.length + y.length + z.length := by rw [hE]; simp [opX]; omega
     have HPP := Lib.hid (phrase_Parse L As cs wr hc8 hm8 hs8 HZ.out (HGL.out.far HWr.out hng) (Nat.le_trans hng HWr.out.size))
     rw [HE] at HPP
     have HEE := Lib.hid hE
     have HEL := Lib.hid hel
     clear HE hn7 hc8 hm8 hs8 hE hel
     go_wp2_with fail
     refine HPP.out.mono ?_
     rintro r w10 ⟨A8, c8, rfl, g1, g2, g3, hb10⟩
     have g3 : NdSl w10 w10.heap.size A8 E := g3
     have cop10 : w10.cell? ⟨w9.heap.size + 1, k, none⟩ = some (.int .i64 (opK k)) := (hb10.cell (p := ⟨w9.heap.size + 1, k, none⟩) (show w9.heap.size + 1 < wr.heap.size by omega)).trans HO.out
     obtain ⟨wN, hwN⟩ : ∃ W, W = w10.alloc (.cells #[.int .i64 (opK k), .int .i64 0, .string ⟨#[]⟩, .string ⟨#[]⟩] 29) := ⟨_, rfl⟩
     have HBW := Lib.hid hb10
     have HbN : Hid (RowKit.Below w10.heap.size w10 wN) := by rw [hwN]; exact (RowKit.Below.refl _ _).alloc (Nat.le_refl _) _
     have HWN : Hid (RowKit.Below w9.heap.size w9 wN) := ((HB9.out.trans (HBr.out.mono HB9.out.size)).trans (hb10.mono (by have := HB9.out.size; omega))).trans (HbN.out.mono (by have := HB9.out.size; have := hb10.size; omega))
     have HWW : Hid (RowKit.Below w.heap.size w wN) := HBB2.out.trans (HWN.out.mono HBB2.out.size)
     have hlit := nds_lit wN [⟨opK k, 0, ⟨#[]⟩, ⟨#[]⟩⟩, ⟨opK k, 0, ⟨#[]⟩, ⟨#[]⟩⟩] #[.int .i64 (opK k), .int .i64 0, .string ⟨#[]⟩, .string ⟨#[]⟩, .int .i64 (opK k), .int .i64 0, .string ⟨#[]⟩, .string ⟨#[]⟩] rfl (by simp)
     have hzN : wN.heap.size = w10.heap.size + 1 := by rw [hwN]; simp
     rw [hzN] at hlit
     have HR0 := Lib.hid hlit
     have HBA : Hid (RowKit.Below (w10.heap.size + 1) wN (wN.alloc (.cells #[.int .i64 (opK k), .int .i64 0, .string ⟨#[]⟩, .string ⟨#[]⟩, .int .i64 (opK k), .int .i64 0, .string ⟨#[]⟩, .string ⟨#[]⟩] 29))) := by rw [← hzN]; (repeat (first | assumption | exact Below.refl _ _ | apply Below.drew | apply below_drewN | (refine Below.alloc ?_ (by first | exact Nat.le_refl _ | omega | (simp; done) | (simp; omega)) _)))
     have HG3 := Lib.hid ((g3.below HbN.out).more HbN.out.size)
     have hal : RowKit.Below wN.heap.size wN (wN.alloc (.cells #[.int .i64 (opK k), .int .i64 0, .string ⟨#[]⟩, .string ⟨#[]⟩, .int .i64 (opK k), .int .i64 0, .string ⟨#[]⟩, .string ⟨#[]⟩] 29)) := by (repeat (first | assumption | exact Below.refl _ _ | apply Below.drew | apply below_drewN | (refine Below.alloc ?_ (by first | exact Nat.le_refl _ | omega | (simp; done) | (simp; omega)) _)))
     have HAL := Lib.hid hal
     have HZN : Hid (∀ W, RowKit.Below (w10.heap.size + 1) wN W → w10.heap.size + 1 ≤ W.heap.size) := fun W h => hzN ▸ h.size
     have HXN : Hid (∀ W, RowKit.Below (w10.heap.size + 1) wN W → RowKit.Below w9.heap.size w9 W) := fun W h => HWN.out.trans (h.mono (by rw [← hzN]; exact HWN.out.size))
     subst hwN
     clear g1 g2 g3 hb10 hlit hal
     go_wp2_with (first | (at_builtin; refine wpList_append_own _ rfl (.tmp 160) (.tmp 161) 22 rfl (w10.heap.size + 1) 29 j0 _ 4 48 Tryz.underlying22 hj hy0 hy1 hy2 rfl (by omega) (.slice (some ⟨w10.heap.size + 1, 0, none⟩) (2) 2) (2) (flat ([⟨opK k, 0, ⟨#[]⟩, ⟨#[]⟩⟩, ⟨opK k, 0, ⟨#[]⟩, ⟨#[]⟩⟩])) rfl HR0.out ⟨bx, ox, none⟩ x.length d0 (flat x) rfl (flat_len x) (HCx.out _ (HXN.out _ HBA.out)) (flat_one_cell x) (by unfold maxLen; omega) (by omega) (HZN.out _ HBA.out) ?_; intro v5 u5 hown5 hgrow5 _; rw [← flat_append] at hown5; obtain ⟨E5, k5, hv5, hc5⟩ := own_sl hown5; subst hv5; have HR5 := Lib.hid hown5; have HB5 : Hid (RowKit.Below (w10.heap.size + 1) (w10.alloc (.cells #[.int .i64 (opK k), .int .i64 0, .string ⟨#[]⟩, .string ⟨#[]⟩] 29)) u5) := HBA.out.grown hgrow5 (HZN.out _ HBA.out) (fun q hq => (own_lt HR0.out hq).1); clear hown5 hgrow5) | (at_builtin; refine wpList_append_own _ rfl (.tmp 163) (.tmp 164) 22 rfl (w10.heap.size + 1) 29 j0 _ 4 48 Tryz.underlying22 hj hy0 hy1 hy2 rfl (by omega) (.slice E5 (2 + x.length) k5) (2 + x.length) (flat ([⟨opK k, 0, ⟨#[]⟩, ⟨#[]⟩⟩, ⟨opK k, 0, ⟨#[]⟩, ⟨#[]⟩⟩] ++ x)) rfl HR5.out ⟨by_, oy, none⟩ y.length d1 (flat y) rfl (flat_len y) (HCy.out _ (HXN.out _ HB5.out)) (flat_one_cell y) (by unfold maxLen; omega) (by omega) (HZN.out _ HB5.out) ?_; intro v6 u6 hown6 hgrow6 _; rw [← flat_append] at hown6; obtain ⟨E6, k6, hv6, hc6⟩ := own_sl hown6; subst hv6; have HR6 := Lib.hid hown6; have HB6 : Hid (RowKit.Below (w10.heap.size + 1) (w10.alloc (.cells #[.int .i64 (opK k), .int .i64 0, .string ⟨#[]⟩, .string ⟨#[]⟩] 29)) u6) := HB5.out.grown hgrow6 (HZN.out _ HB5.out) (fun q hq => (own_lt HR5.out hq).1); clear hown6 hgrow6) | (at_builtin; refine wpList_append_own _ rfl (.tmp 166) (.tmp 167) 22 rfl (w10.heap.size + 1) 29 j0 _ 4 48 Tryz.underlying22 hj hy0 hy1 hy2 rfl (by omega) (.slice E6 (2 + x.length + y.length) k6) (2 + x.length + y.length) (flat ([⟨opK k, 0, ⟨#[]⟩, ⟨#[]⟩⟩, ⟨opK k, 0, ⟨#[]⟩, ⟨#[]⟩⟩] ++ x ++ y)) rfl HR6.out ⟨bz, oz, none⟩ z.length d2 (flat z) rfl (flat_len z) (HCz.out _ (HXN.out _ HB6.out)) (flat_one_cell z) (by unfold maxLen; omega) (by omega) (HZN.out _ HB6.out) ?_; intro v7 u7 hown7 hgrow7 _; rw [← flat_append] at hown7; obtain ⟨E7, k7, hv7, hc7⟩ := own_sl hown7; subst hv7; have HR7 := Lib.hid hown7; have HB7 : Hid (RowKit.Below (w10.heap.size + 1) (w10.alloc (.cells #[.int .i64 (opK k), .int .i64 0, .string ⟨#[]⟩, .string ⟨#[]⟩] 29)) u7) := HB6.out.grown hgrow7 (HZN.out _ HB6.out) (fun q hq => (own_lt HR6.out hq).1); clear hown7 hgrow7))
     obtain ⟨A7, c7, hv7, -, -, hs7, -⟩ := own_form_new HR7.out
     injection hv7 with e1 e2 e3
     subst e1 e3
     have hb7 : RowKit.Below w10.heap.size w10 u7 := HbN.out.trans ((HB7.out.mono (by omega)))
     have HBE := Lib.hid ((HWr.out.trans (HBW.out.mono HWr.out.size)).trans (hb7.mono (by have := HWr.out.size; have := HBW.out.size; omega)))
     have HSE := Lib.hid (same_Nodes E A8 E7 c8 k7 u7 ((HG3.out.below (HB7.out.mono (by simp))).more (by have := HB7.out.size; simp at this ⊢; omega)) (by rw [HEE.out]; simpa [opX] using hs7) (by rw [HEL.out]; omega))
     rw [← HEL.out]
     clear hs7 hb7 e2
     go_wp2_with fail
     refine HSE.out.mono ?_
     rintro r w12 ⟨rfl, hb12⟩
     have HBF := Lib.hid (HBE.out.trans (hb12.mono HBE.out.size))
     clear hb12 HSE
     go_wp2_with fail
     go_ret
     exact ⟨rfl, HBF.out⟩
end Go.Proofs.YtbggbcnfkcadjaaGreatDoor
