/-
  THE WALK of the law PhraseBrackets.
  The rows' seven listed variables (tables of the library, and two errors of package strconv): what they give a walk, and a world that meets them.
  PLAIN LAWS: from the left.
-/
import Derived.Test.YtbggbcnfkcadjaaGreatDoorPc13
import Derived.Test.YtbggbcnfkcadjaaGreatDoorPc14
import Derived.Test.YtbggbcnfkcadjaaGreatDoorPc10
import Derived.Test.YtbggbcnfkcadjaaGreatDoorRows
import Derived.Test.YtbggbcnfkcadjaaGreatDoorPc03
import Derived.Test.YtbggbcnfkcadjaaGreatDoorPc06
import Derived.Test.YtbggbcnfkcadjaaGreatDoorTie
import Derived.Test.YtbggbcnfkcadjaaGreatDoorCards
import Derived.ChangeVars
import Derived.JoinedOf
import Derived.LaidLaws
import Derived.LaidHandle
import Derived.Stop.Joined
import Derived.SevenTiedAt
import Derived.LaidMore
import Derived.Lay
import Derived.OpenShut
import Derived.LaidSub
import Derived.ProofKit
namespace Go.Proofs.YtbggbcnfkcadjaaGreatDoor
set_option maxRecDepth 100000
open Go.RowKit Go.Sort
theorem num_shape (n : Int) : shapedT (numX n) = true := by
 have h : valErr [numX n] = 0 := by simp [valErr, vGo, shapedV, numX]
 unfold shapedT
 rw [if_pos (.inr (.inl rfl)), h]; rfl
theorem num_read {n : Int} (h : -9223372036854775808 ≤ n ∧ n ≤ 9223372036854775807) : Ps .whole (numT n) [numX n] [] := by
 have := (bk_leaf (n := numX n) (num_shape n) (.inr (.inl rfl)) (fun _ => h)).1.c0 [] (Fl.nil 0)
 rw [List.append_nil] at this
 exact this
theorem five : numT 5 = [⟨2, bsOf [53], 0⟩] := by
 unfold numT
 rw [if_neg (by decide)]
 have : Lib.itoa 5 = [53] := by
   unfold Lib.itoa
   rw [if_neg (by decide)]
   exact Lib.decDigits_one (i := 5) (by decide)
 rw [this]
theorem fact_br : parseP [tSg [40], ⟨2, bsOf [53], 0⟩, tSg [41]] = ([numX 5], 0, 0) := by
 have h : parseP [⟨2, bsOf [53], 0⟩] = ([numX 5], 0, 0) := by
   rw [← five]
   refine parse_of (by rw [five]; simp) ?_ (num_read (by decide)) (by simp)
   have : ∀ t ∈ leafT (numX 5), SpT t := sp_leaf (num_shape 5) (.inr (.inl rfl)) (fun _ => by decide)
   exact this
 exact brackets_plain h (by simp)
theorem read_br : (readP ⟨#[40, 53, 41]⟩).1.map bareTk = [tSg [40], ⟨2, bsOf [53], 0⟩, tSg [41]] ∧ (readP ⟨#[40, 53, 41]⟩).1.length ≤ 300 := by
 have e : (⟨#[40, 53, 41]⟩ : ByteArray).toList = [40, 53, 41] := bsOf_list [40, 53, 41]
 have h : readP ⟨#[40, 53, 41]⟩ = ([⟨5, bsOf [40], 0⟩, ⟨2, bsOf [53], 1⟩, ⟨5, bsOf [41], 2⟩], 0, 0) := by
   unfold readP
   rw [e, if_neg (by decide)]
   rfl
 rw [h]
 exact ⟨rfl, by simp⟩
theorem NdG.ok {xs : List Nd} (h : ∀ y ∈ xs, NdG y) : NdOk xs := fun x hx => ⟨by have := (h x hx).1; omega, by have := (h x hx).2.1; omega⟩
theorem GlC.far {w W : World} (h : GlC w) (hb : RowKit.Below w.heap.size w W) (hg : 9 ≤ w.heap.size) : GlC W := h.later hb hg
theorem tk_lit (W : World) (t : Tk) : (W.alloc (.cells #[.int .i64 t.kind, .string t.s, .int .i64 t.at_] 42)).ownsRow W.heap.size 42 3 (.slice (some ⟨W.heap.size, 0, none⟩) 1 1) 1 (flatG Tk.cells [t]) := by
 have := World.ownsRow_lit (base := W.heap.size) (e := 42) (size := 3) W #[.int .i64 t.kind, .string t.s, .int .i64 t.at_] 1 (Nat.le_refl _) (by decide) (by simp)
 exact this
theorem toks_form {W : World} {A : Option Addr} {c n : Nat} {toks : List Tk} {B : Nat} (h : W.ownsRow B 42 3 (.slice A n c) n (flatG Tk.cells toks)) : n = toks.length ∧ n ≤ c ∧ c ≤ 9223372036854775807 ∧ TkSl W W.heap.size A toks := by
 obtain ⟨hn, A', c', hv, h1, h2, h3⟩ := own_formG tk_ok h
 injection hv with e1 e2 e3
 subst e1 e3
 exact ⟨hn, h1, h2, h3⟩
set_option maxHeartbeats 12800000 in
theorem law_brackets (ts : List Tk) (A : Option Addr) (c : Nat) (w : World) (hsl : TkSl w w.heap.size A ts) (hc : ts.length ≤ c) (hcm : c ≤ 9223372036854775807) (hz : ∀ x ∈ ts, x.s.size ≤ 140737488351232) (hgl : GlC w) (hng : 9 ≤ w.heap.size) :
   Calls Tryz.prog 4 #[.slice A ts.length c] w fun r w' => r = .returned (.bool true) ∧ RowKit.Below w.heap.size w w' := by
 obtain ⟨i0, hi, hz0, hz1, hz2⟩ := info_parts tok_info
 have HQK := Lib.hid (fun W => law_quick ⟨#[40, 53, 41]⟩ _ read_br.1 read_br.2 W (by decide))
 have HSL := Lib.hid hsl
 have HZ := Lib.hid hz
 have HGL := Lib.hid hgl
 have HNM := Lib.hid (fun W => law_num 5 W)
 have HLC := Lib.hid hc
 clear hsl hz hgl
 go_enter Tryz.func4, Tryz.ntmps4
 go_wp2_with fail
 refine (HQK.out w).mono ?_
 rintro r w1 ⟨A1, c1, rfl, h1, hb1, h2, h3⟩
 have HB1 := Lib.hid hb1
 have HP := Lib.hid (phrase_Parse _ A1 c1 w1 h2 h3 h1 (by intro x hx; simp only [List.mem_cons, List.not_mem_nil, or_false] at hx; rcases hx with rfl | rfl | rfl <;> (show _ ≤ 140737488351232; rw [← toList_len]; simp [bsOf_list, tSg])) (HGL.out.far hb1 hng) (Nat.le_trans hng hb1.size))
 rw [fact_br] at HP
 clear h1 hb1 h2 h3 HQK
 go_wp2_with fail
 refine HP.out.mono ?_
 rintro r w2 ⟨A2, c2, rfl, h1, h2, h3, hb2⟩
 have HB2 := Lib.hid (HB1.out.trans (hb2.mono HB1.out.size))
 have H3 := Lib.hid h3
 clear h1 h2 h3 hb2 HP HB1
 go_wp2_with fail
 refine (HNM.out w2).mono ?_
 rintro r w3 ⟨rfl, hb3⟩
 have HB3 := Lib.hid (HB2.out.trans (hb3.mono HB2.out.size))
 have hs5 : NdSl (w3.alloc (.cells #[.int .i64 2, .int .i64 5, .string ⟨#[]⟩, .string ⟨#[]⟩] 29)) (w3.alloc (.cells #[.int .i64 2, .int .i64 5, .string ⟨#[]⟩, .string ⟨#[]⟩] 29)).heap.size (some ⟨w3.heap.size, 0, none⟩) [numX 5] := by
   have hn := nds_one w3 (numX 5)
   obtain ⟨A', c', hv, -, -, hs, -⟩ := hn
   injection hv with hv
   injection hv with e1 e2 e3
   subst e1
   exact hs
 have hb0 : RowKit.Below w3.heap.size w3 (w3.alloc (.cells #[.int .i64 2, .int .i64 5, .string ⟨#[]⟩, .string ⟨#[]⟩] 29)) := by (repeat (first | assumption | exact Below.refl _ _ | apply Below.drew | apply below_drewN | (refine Below.alloc ?_ (by first | exact Nat.le_refl _ | omega | (simp; done) | (simp; omega)) _)))
 have HSN := Lib.hid (same_Nodes [numX 5] A2 (some ⟨w3.heap.size, 0, none⟩) c2 1 _ (((H3.out.below (hb3.mono (Nat.le_refl _))).below (hb0.mono hb3.size)).more (by have := hb3.size; simp; omega)) hs5 (by simp))
 have HB4 := Lib.hid (HB3.out.trans (hb0.mono HB3.out.size))
 clear hb3 hs5 hb0 H3 HB2
 go_wp2_with fail
 refine HSN.out.mono ?_
 rintro r w4 ⟨rfl, hb4⟩
 have HB5 := Lib.hid (HB4.out.trans (hb4.mono HB4.out.size))
 clear hb4 HSN HB3 HB4
 have HP2 := Lib.hid (phrase_Parse ts A c w4 hc hcm ((HSL.out.below HB5.out).more HB5.out.size) HZ.out (HGL.out.far HB5.out hng) (Nat.le_trans hng HB5.out.size))
 obtain ⟨⟨e, a, k⟩, hq⟩ : ∃ q, parseP ts = q := ⟨_, rfl⟩
 rw [hq] at HP2
 have HQ := Lib.hid hq
 clear hq
 go_wp2_with fail
 refine HP2.out.mono ?_
 rintro r w5 ⟨A5, c5, rfl, h1, h2, h3, hb5⟩
 have HB6 := Lib.hid (HB5.out.trans (hb5.mono HB5.out.size))
 have H3 := Lib.hid h3
 have h1 : e.length ≤ c5 := h1
 clear h3 hb5 HP2 HB5
 by_cases k0 : k = 0
 case neg =>
   have tk : (k != 0) = true := by simpa using k0
   clear k0
   go_wp2_with fail
   go_ret
   exact ⟨rfl, HB6.out⟩
 case pos =>
   subst k0
   obtain ⟨hl3, hs, hp, he, ha⟩ := parse_ok HQ.out
   by_cases h302 : 300 < ts.length + 2
   · have t302 : decide ((300 : Int) < (ts.length : Int) + 2) = true := by simp; omega
     have i64 : IntKind.wrap .i64 ((ts.length : Int) + 2) = (ts.length : Int) + 2 := IntWalk.i64_in _ (by omega)
     clear h302 hs hp
     go_wp2_with fail
     go_ret
     exact ⟨rfl, HB6.out⟩
   · have t302 : decide ((300 : Int) < (ts.length : Int) + 2) = false := by simp; omega
     have i64 : IntKind.wrap .i64 ((ts.length : Int) + 2) = (ts.length : Int) + 2 := IntWalk.i64_in _ (by omega)
     have hne : ts ≠ [] := by
       rintro rfl
       obtain ⟨f, hf⟩ := hp
       have := pa_sh f .whole []
       rw [hf] at this
       obtain ⟨pre, h5, h6⟩ := this
       simp at h5
       subst h5
       simp [PT.starts] at h6
     have HBP := Lib.hid (brackets_plain HQ.out (by omega))
     have HGD := Lib.hid (parse_gd HQ.out)
     obtain ⟨b, o, rfl, hb, -⟩ := HSL.out hne
     have HC := Lib.hid (fun j u hu => SlG.flat tk_ok (HSL.out.below HB6.out) j u hu)
     have hz6 := HB6.out.size
     have HLT := Lib.hid (tk_lit w5 (tSg [40]))
     have hel : e.length ≤ 200 := he
     clear h302 hs hp hne he
     go_wp2_with (first | (at_builtin; refine wpList_append_own _ rfl (.tmp 45) (.tmp 46) 23 rfl w5.heap.size 42 i0 _ 3 32 Tryz.underlying23 hi hz0 hz1 hz2 rfl (by omega) (.slice (some ⟨w5.heap.size, 0, none⟩) 1 1) 1 (flatG Tk.cells [tSg [40]]) rfl HLT.out ⟨b, o, none⟩ ts.length c (flatG Tk.cells ts) rfl (flatG_len tk_ok ts) (fun j u hu => ((RowKit.Below.refl w5.heap.size w5).alloc (Nat.le_refl _) _).cell (by rw [block_addG]; show b < _; omega) |>.trans (HC.out j u hu)) (flatG_cell tk_ok ts) (by unfold maxLen; omega) (by omega) (by simp) ?_; intro v6 w6 hown6 hgrow6 _; rw [← flatG_append] at hown6; obtain ⟨A6, c6, hv6, hc6⟩ := own_sl hown6; subst hv6; have HR6 : Hid ((w6.alloc (.cells #[.int .i64 5, .string ⟨#[41]⟩, .int .i64 0] 42)).ownsRow w5.heap.size 42 3 (.slice A6 (1 + ts.length) c6) (1 + ts.length) (flatG Tk.cells ([tSg [40]] ++ ts))) := own_keep hown6 (by (repeat (first | assumption | exact Below.refl _ _ | apply Below.drew | apply below_drewN | (refine Below.alloc ?_ (by first | exact Nat.le_refl _ | omega | (simp; done) | (simp; omega)) _)))); have HB7 : Hid (RowKit.Below w5.heap.size w5 w6) := ((RowKit.Below.refl w5.heap.size w5).alloc (Nat.le_refl _) _).grown hgrow6 (by simp) (fun q hq => (own_lt HLT.out hq).1); clear hown6 hgrow6) | (at_builtin; refine wpList_append_own _ rfl (.tmp 48) (.tmp 50) 23 rfl w5.heap.size 42 i0 _ 3 32 Tryz.underlying23 hi hz0 hz1 hz2 rfl (by omega) (.slice A6 (1 + ts.length) c6) (1 + ts.length) (flatG Tk.cells ([tSg [40]] ++ ts)) rfl HR6.out ⟨w6.heap.size, 0, none⟩ 1 1 (flatG Tk.cells [tSg [41]]) rfl rfl (new_flatG w6 _ (tSg [41]) _ rfl _ rfl) (flatG_cell tk_ok [tSg [41]]) (by unfold maxLen; omega) (by omega) (by have := HB7.out.size; simp; omega) ?_; intro v7 w7 hown7 hgrow7 _; rw [← flatG_append] at hown7; obtain ⟨A7, c7, hv7, hc7⟩ := own_sl hown7; subst hv7; have HR7 := Lib.hid hown7; have HB8 : Hid (RowKit.Below w5.heap.size w5 w7) := (HB7.out.alloc HB7.out.size _).grown hgrow7 (by have := HB7.out.size; simp; omega) (fun q hq => (own_lt HR6.out hq).1); clear hown7 hgrow7))
     have hus : [tSg [40]] ++ ts ++ [tSg [41]] = tSg [40] :: (ts ++ [tSg [41]]) := by simp
     rw [hus] at HR7
     obtain ⟨hn7, hc8, hm8, hs8⟩ := toks_form HR7.out
     have HB9 := Lib.hid (HB6.out.trans (HB8.out.mono hz6))
     have HP3 := Lib.hid (phrase_Parse (tSg [40] :: (ts ++ [tSg [41]])) A7 c7 w7 (by rw [← hn7]; exact hc8) hm8 hs8 (fun x hx => by
       rcases List.mem_cons.1 hx with rfl | hx
       · show _ ≤ 140737488351232; rw [← toList_len]; simp [bsOf_list, tSg]
       · rcases List.mem_append.1 hx with hx | hx
         · exact HZ.out x hx
         · rw [List.mem_singleton] at hx; subst hx; show _ ≤ 140737488351232; rw [← toList_len]; simp [bsOf_list, tSg]) (HGL.out.far HB9.out hng) (Nat.le_trans hng HB9.out.size))
     rw [HBP.out, ← hn7] at HP3
     have HS5 := Lib.hid (H3.out.below HB8.out)
     clear hus hn7 hc8 hm8 hs8 HR7 HB7 HR6 HLT HC HQ
     refine HP3.out.mono ?_
     rintro r w8 ⟨A8, c8, rfl, g1, g2, g3, hb8⟩
     have g3 : NdSl w8 w8.heap.size A8 e := g3
     have HSM := Lib.hid (same_Nodes e A8 A5 c8 c5 w8 g3 ((HS5.out.below (hb8.mono HB8.out.size)).more (by have := HB8.out.size; have := hb8.size; omega)) (by omega))
     have HBA := Lib.hid (HB9.out.trans (hb8.mono HB9.out.size))
     clear g1 g2 g3 hb8 HP3
     go_wp2_with fail
     refine HSM.out.mono ?_
     rintro r w10 ⟨rfl, hb10⟩
     have HBB := Lib.hid (HBA.out.trans (hb10.mono HBA.out.size))
     clear hb10 HSM
     go_wp2_with fail
     go_ret
     exact ⟨rfl, HBB.out⟩
end Go.Proofs.YtbggbcnfkcadjaaGreatDoor
namespace Go.Proofs.YtbggbcnfkcadjaaGreatDoor
set_option maxRecDepth 100000
open Go Go.ChangeShapes Go.WideShapes Go.ChangeAt Go.RowKit Go.WideMaps
def laidB : List (String × DataW Unit) := [("math/bits.deBruijn32tab", Rows.laid_math_bits_deBruijn32tab), ("math/bits.deBruijn64tab", Rows.laid_math_bits_deBruijn64tab), ("internal/strconv.uint64pow10", Rows.laid_internal_strconv_uint64pow10), ("unicode/utf8.acceptRanges", Rows.laid_unicode_utf8_acceptRanges), ("strconv.ErrRange", Rows.laid_strconv_ErrRange), ("strconv.ErrSyntax", Rows.laid_strconv_ErrSyntax), ("unicode/utf8.first", Rows.laid_unicode_utf8_first)]
theorem Tryz.gsyn : Tryz.prog.globalNamed "strconv.ErrSyntax" = some 7 := by kernel_rfl
theorem Tryz.gran : Tryz.prog.globalNamed "strconv.ErrRange" = some 8 := by kernel_rfl
theorem Tryz.tsyn : (Tryz.prog.globals[7]?).map (·.type) = some 25 := by kernel_rfl
theorem Tryz.tran : (Tryz.prog.globals[8]?).map (·.type) = some 25 := by kernel_rfl
theorem err_of_laid {W : World} {n nm : String} {g : Nat} {d : DataW Unit} (hg : Tryz.prog.globalNamed n = some g) (ht : (Tryz.prog.globals[g]?).map (·.type) = some 25) (h : laidMet Tryz.prog [(n, .iface nm d)] W) : ∃ v, W.cell? ⟨g, 0, none⟩ = some v ∧ (v = .nilIface ∨ ∃ te pe, v = .iface te pe) := by
 obtain ⟨ps, hv, -⟩ := h
 obtain ⟨g', t, cs, fuel, p, q, e1, e2, e3, e4, -⟩ := hv
 obtain rfl := Option.some.inj (hg.symm.trans e1)
 obtain rfl := Option.some.inj (ht.symm.trans e2)
 obtain ⟨f2, u, v, hc, -⟩ := iface_of_trod Tryz.underlying25 e4
 refine ⟨.iface u v, ?_, .inr ⟨u, v, rfl⟩⟩
 have := World.var?_cell hg e3 0
 rw [this, ← Array.getElem?_toList, hc]; rfl
theorem gl_of_laid {W : World} (h : laidMetH Tryz.prog laidB W) : GlC W := by
 have h1 : laidMet Tryz.prog [("strconv.ErrSyntax", Rows.laid_strconv_ErrSyntax)] W := h.filter fun x => x.1 == "strconv.ErrSyntax"
 have h2 : laidMet Tryz.prog [("strconv.ErrRange", Rows.laid_strconv_ErrRange)] W := h.filter fun x => x.1 == "strconv.ErrRange"
 exact ⟨err_of_laid Tryz.gsyn Tryz.tsyn h1, err_of_laid Tryz.gran Tryz.tran h2⟩
theorem GlC.ng {W : World} (h : GlC W) : 9 ≤ W.heap.size := by
 obtain ⟨v, h1, -⟩ := h.syn
 obtain ⟨u, h2, -⟩ := h.ran
 have l1 := World.block_lt_of_cell? W _ h1
 have l2 := World.block_lt_of_cell? W _ h2
 simp at l1 l2
 omega
noncomputable def laidWorldB (os : Os) : World := World.laidAll Tryz.prog os laidB
theorem laidWorldB_os (os : Os) : (laidWorldB os).os = os := World.laidAll_os _ _ _
theorem laidWorldB_met (os : Os) (args : Array Value) : laidMetH Tryz.prog laidB ((laidWorldB os).forCall (fun _ _ => 0) ⟨#[], args, []⟩).memory :=
 laidMetH_of_parts (laidMet_of_run' 8 (by kernel_rfl) (by kernel_rfl)) (by kernel_rfl)
end Go.Proofs.YtbggbcnfkcadjaaGreatDoor
namespace Go.Proofs.YtbggbcnfkcadjaaGreatDoor
open Go.RowKit
def Br (a : List Tk) : List Tk := tSg [40] :: (a ++ [tSg [41]])
def usL (s : List UInt8) (a b c : List Tk) : List Tk := a ++ tSg s :: (b ++ tSg s :: c)
theorem br_bk {a : List Tk} {e : List Nd} (h : Ps .whole a e []) : Bk (Br a) e 8 := (round_bk h).low (by omega)
theorem left_or {a b c : List Tk} {x y z : List Nd} (ha : Bk a x 8) (hb : Bk b y 8) (hc : Bk c z 8) : Bk (usL [124, 124] a b c) (opX 12 (opX 12 (x ++ y) ++ z)) 1 := by
 refine Bk.of1 (by simp [usL]) (nif_app ha (by omega)) fun r hr e' r' hl => ?_
 unfold usL
 rw [List.append_assoc]
 refine ha.c1 (by omega) (tSg [124, 124] :: (b ++ tSg [124, 124] :: c) ++ r) (Fl.sg (by decide)) e' r' ?_
 have f2 : Fl 2 (tSg [124, 124] :: c ++ r) := Fl.sg (by decide)
 refine Ps.lp_go (t := tSg [124, 124]) (r := tSg [124, 124] :: c ++ r) (e2 := y) (by rw [chOp_12]; decide) (by
   show Ps _ ((b ++ tSg [124, 124] :: c) ++ r) _ _
   rw [List.append_assoc]
   exact hb.c2 (by omega) _ (f2.up (by omega)) y _ (f2.lp (by omega))) ?_
 rw [chOp_12]
 refine Ps.lp_go (t := tSg [124, 124]) (by rw [chOp_12]; decide) (hc.c2 (by omega) r (hr.up (by omega)) z r (hr.lp (by omega))) ?_
 rw [chOp_12]; exact hl
theorem left_and {a b c : List Tk} {x y z : List Nd} (ha : Bk a x 8) (hb : Bk b y 8) (hc : Bk c z 8) : Bk (usL [38, 38] a b c) (opX 11 (opX 11 (x ++ y) ++ z)) 2 := by
 refine Bk.of2 (by simp [usL]) (nif_app ha (by omega)) fun r hr e' r' hl => ?_
 unfold usL
 rw [List.append_assoc]
 refine ha.c2 (by omega) (tSg [38, 38] :: (b ++ tSg [38, 38] :: c) ++ r) (Fl.sg (by decide)) e' r' ?_
 have f2 : Fl 3 (tSg [38, 38] :: c ++ r) := Fl.sg (by decide)
 refine Ps.lp_go (t := tSg [38, 38]) (r := tSg [38, 38] :: c ++ r) (e2 := y) (by rw [chOp_11]; decide) (by
   show Ps _ ((b ++ tSg [38, 38] :: c) ++ r) _ _
   rw [List.append_assoc]
   exact hb.c3 (by omega) _ f2) ?_
 rw [chOp_11]
 refine Ps.lp_go (t := tSg [38, 38]) (by rw [chOp_11]; decide) (hc.c3 (by omega) r hr) ?_
 rw [chOp_11]; exact hl
theorem left_sum {l : List UInt8} {o : Int} (hs : l = [43] ∨ l = [45]) (ho : chOp 4 (tSg l) = o) (h0 : o ≠ 0) {a b c : List Tk} {x y z : List Nd} (ha : Bk a x 8) (hb : Bk b y 8) (hc : Bk c z 8) : Bk (usL l a b c) (opX o (opX o (x ++ y) ++ z)) 4 := by
 refine Bk.of4 (by simp [usL]) (nif_app ha (by omega)) fun r hr e' r' hl => ?_
 unfold usL
 rw [List.append_assoc]
 refine ha.c4 (by omega) (tSg l :: (b ++ tSg l :: c) ++ r) (Fl.sg (by rcases hs with rfl | rfl <;> decide)) e' r' ?_
 have f2 : Fl 5 (tSg l :: c ++ r) := Fl.sg (by rcases hs with rfl | rfl <;> decide)
 refine Ps.lp_go (t := tSg l) (r := tSg l :: c ++ r) (e2 := y) (by rw [ho]; exact h0) (by
   show Ps _ ((b ++ tSg l :: c) ++ r) _ _
   rw [List.append_assoc]
   exact hb.c5 (by omega) _ (f2.up (by omega)) y _ (f2.lp (by omega))) ?_
 rw [ho]
 refine Ps.lp_go (t := tSg l) (by rw [ho]; exact h0) (hc.c5 (by omega) r (hr.up (by omega)) z r (hr.lp (by omega))) ?_
 rw [ho]; exact hl
theorem left_mul {a b c : List Tk} {x y z : List Nd} (ha : Bk a x 8) (hb : Bk b y 8) (hc : Bk c z 8) : Bk (usL [42] a b c) (opX 19 (opX 19 (x ++ y) ++ z)) 5 := by
 refine Bk.of5 (by simp [usL]) (nif_app ha (by omega)) fun r hr e' r' hl => ?_
 unfold usL
 rw [List.append_assoc]
 refine ha.c5 (by omega) (tSg [42] :: (b ++ tSg [42] :: c) ++ r) (Fl.sg (by decide)) e' r' ?_
 have f2 : Fl 7 (tSg [42] :: c ++ r) := Fl.sg (by decide)
 refine Ps.lp_go (t := tSg [42]) (r := tSg [42] :: c ++ r) (e2 := y) (by rw [chOp_19]; decide) (by
   show Ps _ ((b ++ tSg [42] :: c) ++ r) _ _
   rw [List.append_assoc]
   exact hb.c6 (by omega) _ f2) ?_
 rw [chOp_19]
 refine Ps.lp_go (t := tSg [42]) (by rw [chOp_19]; decide) (hc.c6 (by omega) r hr) ?_
 rw [chOp_19]; exact hl
def sigK : Nat → List UInt8
 | 0 => [124, 124] | 1 => [38, 38] | 2 => [43] | 3 => [45] | _ => [42]
def opK : Nat → Int
 | 0 => 12 | 1 => 11 | 2 => 17 | 3 => 18 | _ => 19
theorem left_bk (k : Nat) {a b c : List Tk} {x y z : List Nd} (ha : Bk a x 8) (hb : Bk b y 8) (hc : Bk c z 8) : ∃ L, Bk (usL (sigK k) a b c) (opX (opK k) (opX (opK k) (x ++ y) ++ z)) L := by
 match k with
 | 0 => exact ⟨_, left_or ha hb hc⟩
 | 1 => exact ⟨_, left_and ha hb hc⟩
 | 2 => exact ⟨_, left_sum (.inl rfl) chOp_17 (by decide) ha hb hc⟩
 | 3 => exact ⟨_, left_sum (.inr rfl) chOp_18 (by decide) ha hb hc⟩
 | _ + 4 => exact ⟨_, left_mul ha hb hc⟩
theorem sigK_sp (k : Nat) : SpT (tSg (sigK k)) := by
 match k with
 | 0 => exact sp_sg (by decide)
 | 1 => exact sp_sg (by decide)
 | 2 => exact sp_sg (by decide)
 | 3 => exact sp_sg (by decide)
 | _ + 4 => exact sp_sg (l := [42]) (by decide)
theorem br_sp {a : List Tk} (h : ∀ t ∈ a, SpT t) : ∀ t ∈ Br a, SpT t := all_cons (sp_sg (by decide)) (all_app h (all_cons (sp_sg (by decide)) all_nil))
theorem br_len (a : List Tk) : (Br a).length = a.length + 2 := by simp [Br]
theorem left_plain (k : Nat) {a b c : List Tk} {x y z : List Nd} {i1 i2 i3 : Nat} (ha : parseP a = (x, i1, 0)) (hb : parseP b = (y, i2, 0)) (hc : parseP c = (z, i3, 0)) (hl : a.length + b.length + c.length + 8 ≤ 300) (he : x.length + y.length + z.length + 2 ≤ 200) :
   parseP (usL (sigK k) (Br a) (Br b) (Br c)) = (opX (opK k) (opX (opK k) (x ++ y) ++ z), 0, 0) := by
 obtain ⟨-, sa, pa_, -, -⟩ := parse_ok ha
 obtain ⟨-, sb, pb, -, -⟩ := parse_ok hb
 obtain ⟨-, sc, pc, -, -⟩ := parse_ok hc
 refine parse_of ?_ ?_ ?_ ?_
 · unfold usL; simp only [List.length_append, List.length_cons, br_len]; omega
 · exact all_app (br_sp sa) (all_cons (sigK_sp k) (all_app (br_sp sb) (all_cons (sigK_sp k) (br_sp sc))))
 · obtain ⟨L, hB⟩ := left_bk k (br_bk pa_) (br_bk pb) (br_bk pc)
   have := hB.c0 [] (Fl.nil 0)
   rwa [List.append_nil] at this
 · simp [opX]; omega
def NeP (p : List Tk → Pr) : Prop := ∀ ts e r, p ts = .ok e r → e ≠ []
theorem NeP.bind {x : List Tk → Pr} {g : List Nd → List Tk → Pr} (hx : NeP x) (hg : ∀ e, e ≠ [] → NeP (g e)) : NeP (fun ts => (x ts).bind g) := by
 intro ts e r h
 have h : (x ts).bind g = .ok e r := h
 cases hx' : x ts with
 | bad k q => rw [hx'] at h; cases h
 | ok e1 r1 => rw [hx'] at h; exact hg e1 (hx ts e1 r1 hx') r1 e r h
theorem NeP.ok {e : List Nd} (h : e ≠ []) : NeP (fun ts => .ok e ts) := fun ts e' r hr => by injection hr with h1 h2; subst h1; exact h
theorem NeP.tok {c : Tk → Bool} {g : Tk → List Tk → Pr} (hg : ∀ t, NeP (g t)) : NeP (fun ts => tokR c ts g) := by
 intro ts e r h
 cases ts with
 | nil => cases h
 | cons t q =>
   have h : (if c t = true then g t q else .bad 1 (t :: q)) = .ok e r := h
   split at h
   · exact hg t q e r h
   · cases h
theorem NeP.ite {c : List Tk → Prop} [∀ ts, Decidable (c ts)] {p q : List Tk → Pr} (h1 : NeP p) (h2 : NeP q) : NeP (fun ts => if c ts then p ts else q ts) := by
 intro ts e r h
 have h : (if c ts then p ts else q ts) = .ok e r := h
 split at h
 · exact h1 ts e r h
 · exact h2 ts e r h
theorem NeP.tail {p : List Tk → Pr} (h : NeP p) : NeP (fun ts => p ts.tail) := fun ts e r hr => h ts.tail e r hr
def PT.ne : PT → Prop
 | .lp _ e => e ≠ [] | .po e => e ≠ [] | _ => True
theorem subT_ne (l : Nat) : (subT l).ne := by unfold subT; (repeat' split) <;> trivial
theorem numA_ne {l : List UInt8} {ts r : List Tk} {e : List Nd} {q : List Tk} (h : numA l ts r = .ok e q) : e ≠ [] := by
 unfold numA at h
 split at h
 · injection h with h1; subst h1; simp
 · cases h
theorem pa_ne : ∀ (f : Nat) (a : PT), a.ne → NeP (pa f a) := by
 intro f
 induction f with
 | zero => intro a _ ts e r h; cases h
 | succ f ih =>
   intro a ha
   cases a with
   | whole =>
     have := NeP.ite (c := fun ts => hdN wIf ts = true ∧ hdS wCol ts.tail = false) (NeP.tail ((ih .whole trivial).bind fun c _ => NeP.tok (c := isN wThen) fun _ => (ih .whole trivial).bind fun a _ => NeP.tok (c := isN wElse) fun _ => (ih .whole trivial).bind fun b _ => NeP.ok (e := opX 13 (c ++ a ++ b)) (by simp [opX]))) (ih (.ch 1) trivial)
     exact this
   | ch l => exact (ih (subT l) (subT_ne l)).bind fun e he => ih (.lp l e) he
   | lp l e0 =>
     intro ts e r h
     cases ts with
     | nil => injection h with h1; subst h1; exact ha
     | cons t q =>
       simp only [pa] at h
       split at h
       · injection h with h1; subst h1; exact ha
       · exact ((ih (subT l) (subT_ne l)).bind fun e2 _ => ih (.lp l (opX (chOp l t) (e0 ++ e2))) (by simp [PT.ne, opX])) q e r h
   | rel =>
     intro ts e r h
     have h : (pa f (.ch 4) ts).bind (fun e r => if relOp r ≠ 0 then (pa f (.ch 4) r.tail).bind fun e2 r2 => .ok (opX (relOp r) (e ++ e2)) r2 else if relWd r ≠ 0 then wordR (if relWd r = 23 then 3 else 1) r.tail fun s r2 => .ok (opS (relWd r) s e) r2 else .ok e r) = .ok e r := h
     cases hx : pa f (.ch 4) ts with
     | bad k q => rw [hx] at h; cases h
     | ok e1 r1 =>
       have h1 := ih (.ch 4) trivial ts e1 r1 hx
       rw [hx] at h
       have h : (if relOp r1 ≠ 0 then (pa f (.ch 4) r1.tail).bind fun e2 r2 => .ok (opX (relOp r1) (e1 ++ e2)) r2 else if relWd r1 ≠ 0 then wordR (if relWd r1 = 23 then 3 else 1) r1.tail fun s r2 => .ok (opS (relWd r1) s e1) r2 else .ok e1 r1) = .ok e r := h
       split at h
       · generalize relOp r1 = o at h
         exact ((ih (.ch 4) trivial).bind fun e2 _ => NeP.ok (e := opX o (e1 ++ e2)) (by simp [opX])) r1.tail e r h
       split at h
       · generalize relWd r1 = o at h
         exact (NeP.tok (c := fun t => t.kind == (if o = 23 then 3 else 1)) (g := fun u r2 => .ok (opS o u.s e1) r2) fun u => NeP.ok (by simp [opS])) r1.tail e r h
       · injection h with h2; subst h2; exact h1
   | sign =>
     have := NeP.ite (c := fun ts => hdS [33] ts = true) (NeP.tail ((ih .sign trivial).bind fun e _ => NeP.ok (e := opX 9 e) (by simp [opX]))) (NeP.ite (c := fun ts => hdS [45] ts = true ∧ hdK 2 ts.tail = false) (NeP.tail ((ih .sign trivial).bind fun e _ => NeP.ok (e := opX 10 e) (by simp [opX]))) ((ih .atom trivial).bind fun e he => ih (.po e) he))
     exact this
   | po e0 =>
     have := NeP.ite (c := fun ts => hdS [46] ts = true) (NeP.tail (NeP.tok (c := fun t => t.kind == 1) fun t => NeP.ite (c := fun r => dotOp t.s.toList = 0 ∨ hdS [40] r = false) (ih (.po (opS 22 t.s e0)) (by simp [PT.ne, opS])) (NeP.tail ((ih .whole trivial).bind fun e2 _ => NeP.tok (c := isS [41]) fun _ => ih (.po (opX (dotOp t.s.toList) (e0 ++ e2))) (by simp [PT.ne, opX]))))) (NeP.ok (e := e0) ha)
     exact this
   | atom =>
     intro ts e r h
     have h : atomR (pa f .whole) (pa f (.se [])) (pa f (.re [] ⟨#[]⟩)) ts = .ok e r := h
     cases ts with
     | nil => cases h
     | cons t q =>
       unfold atomR at h
       dsimp only at h
       split at h
       · exact numA_ne h
       split at h
       · injection h with h1; subst h1; simp
       split at h
       · injection h with h1; subst h1; simp
       split at h
       · split at h
         · exact (NeP.tok (c := fun t => t.kind == 3) (g := fun u r2 => .ok [⟨4, 0, t.s, u.s⟩] r2) fun u => NeP.ok (by simp)) q.tail e r h
         split at h
         · injection h with h1; subst h1; simp
         split at h
         · injection h with h1; subst h1; simp
         split at h
         · cases h
         · injection h with h1; subst h1; simp
       split at h
       · cases q with
         | nil => cases h
         | cons u q' =>
           unfold minusR at h
           dsimp only at h
           split at h
           · exact numA_ne h
           · cases h
       split at h
       · exact ((ih .whole trivial).bind fun e he => NeP.tok (c := isS [41]) fun _ => NeP.ok he) q e r h
       split at h
       · exact ih (.se []) trivial q e r h
       split at h
       · exact ih (.re [] ⟨#[]⟩) trivial q e r h
       · cases h
   | se ps =>
     have hgo : NeP (fun ts => (pa f .whole ts).bind fun e r => pa f (.se (ps ++ [e])) r) := (ih .whole trivial).bind fun e _ => ih (.se (ps ++ [e])) trivial
     have := NeP.ite (c := fun ts => hdS [93] ts = true) (NeP.tail (NeP.ok (e := ⟨5, ps.length, ⟨#[]⟩, ⟨#[]⟩⟩ :: ps.flatten) (by simp))) (NeP.ite (c := fun _ => ps = []) hgo (NeP.tok (c := isS [44]) fun _ => hgo))
     exact this
   | re ps last =>
     have hgo : NeP (fun ts => tokR (fun t => t.kind == 1 && !sLate last t.s) ts fun t r1 => needR [58] r1 fun r2 => (pa f .whole r2).bind fun e r3 => pa f (.re (ps ++ [opS 7 t.s e]) t.s) r3) := NeP.tok (c := fun t => t.kind == 1 && !sLate last t.s) fun t => NeP.tok (c := isS [58]) fun _ => (ih .whole trivial).bind fun e _ => ih (.re (ps ++ [opS 7 t.s e]) t.s) trivial
     have := NeP.ite (c := fun ts => hdS [125] ts = true) (NeP.tail (NeP.ok (e := ⟨6, ps.length, ⟨#[]⟩, ⟨#[]⟩⟩ :: ps.flatten) (by simp))) (NeP.ite (c := fun _ => ps = []) hgo (NeP.tok (c := isS [44]) fun _ => hgo))
     exact this
theorem parse_ne {ts : List Tk} {e : List Nd} {a : Nat} (h : parseP ts = (e, a, 0)) : e ≠ [] ∧ ts ≠ [] := by
 obtain ⟨-, -, ⟨f, hp⟩, -, -⟩ := parse_ok h
 refine ⟨pa_ne f .whole trivial ts e [] hp, ?_⟩
 rintro rfl
 have := pa_sh f .whole []
 rw [hp] at this
 obtain ⟨pre, h5, h6⟩ := this
 simp at h5
 subst h5
 simp [PT.starts] at h6
end Go.Proofs.YtbggbcnfkcadjaaGreatDoor
