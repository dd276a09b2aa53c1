/-
  THE WALK of the law PhraseBrackets.
  The rows' seven listed variables (tables of the library, and two errors of package strconv): what they give a walk, and a world that meets them.
-/
import Derived.Test.YtbggbcnfkcadjaaGreatDoorPb13
import Derived.Test.YtbggbcnfkcadjaaGreatDoorPb14
import Derived.Test.YtbggbcnfkcadjaaGreatDoorPb10
import Derived.Test.YtbggbcnfkcadjaaGreatDoorRows
import Derived.Test.YtbggbcnfkcadjaaGreatDoorPb03
import Derived.Test.YtbggbcnfkcadjaaGreatDoorPb06
import Derived.Test.YtbggbcnfkcadjaaGreatDoorTie
import Derived.Test.YtbggbcnfkcadjaaGreatDoorCards
import Derived.ChangeVars
import Derived.JoinedOf
import Derived.LaidLaws
import Derived.LaidHandle
import Derived.Stop.Joined
import Derived.SevenTiedAt
import Derived.LaidMore
import Derived.Lay
import Derived.OpenShut
import Derived.LaidSub
import Derived.ProofKit
namespace Go.Proofs.YtbggbcnfkcadjaaGreatDoor
set_option maxRecDepth 100000
open Go.RowKit Go.Sort
theorem num_shape (n : Int) : shapedT (numX n) = true := by
 have h : valErr [numX n] = 0 := by simp [valErr, vGo, shapedV, numX]
 unfold shapedT
 rw [if_pos (.inr (.inl rfl)), h]; rfl
theorem num_read {n : Int} (h : -9223372036854775808 ≤ n ∧ n ≤ 9223372036854775807) : Ps .whole (numT n) [numX n] [] := by
 have := (bk_leaf (n := numX n) (num_shape n) (.inr (.inl rfl)) (fun _ => h)).1.c0 [] (Fl.nil 0)
 rw [List.append_nil] at this
 exact this
theorem five : numT 5 = [⟨2, bsOf [53], 0⟩] := by
 unfold numT
 rw [if_neg (by decide)]
 have : Lib.itoa 5 = [53] := by
   unfold Lib.itoa
   rw [if_neg (by decide)]
   exact Lib.decDigits_one (i := 5) (by decide)
 rw [this]
theorem fact_br : parseP [tSg [40], ⟨2, bsOf [53], 0⟩, tSg [41]] = ([numX 5], 0, 0) := by
 have h : parseP [⟨2, bsOf [53], 0⟩] = ([numX 5], 0, 0) := by
   rw [← five]
   refine parse_of (by rw [five]; simp) ?_ (num_read (by decide)) (by simp)
   have : ∀ t ∈ leafT (numX 5), SpT t := sp_leaf (num_shape 5) (.inr (.inl rfl)) (fun _ => by decide)
   exact this
 exact brackets_plain h (by simp)
theorem read_br : (readP ⟨#[40, 53, 41]⟩).1.map bareTk = [tSg [40], ⟨2, bsOf [53], 0⟩, tSg [41]] ∧ (readP ⟨#[40, 53, 41]⟩).1.length ≤ 300 := by
 have e : (⟨#[40, 53, 41]⟩ : ByteArray).toList = [40, 53, 41] := bsOf_list [40, 53, 41]
 have h : readP ⟨#[40, 53, 41]⟩ = ([⟨5, bsOf [40], 0⟩, ⟨2, bsOf [53], 1⟩, ⟨5, bsOf [41], 2⟩], 0, 0) := by
   unfold readP
   rw [e, if_neg (by decide)]
   rfl
 rw [h]
 exact ⟨rfl, by simp⟩
theorem NdG.ok {xs : List Nd} (h : ∀ y ∈ xs, NdG y) : NdOk xs := fun x hx => ⟨by have := (h x hx).1; omega, by have := (h x hx).2.1; omega⟩
theorem GlC.far {w W : World} (h : GlC w) (hb : RowKit.Below w.heap.size w W) (hg : 9 ≤ w.heap.size) : GlC W := h.later hb hg
theorem tk_lit (W : World) (t : Tk) : (W.alloc (.cells #[.int .i64 t.kind, .string t.s, .int .i64 t.at_] 42)).ownsRow W.heap.size 42 3 (.slice (some ⟨W.heap.size, 0, none⟩) 1 1) 1 (flatG Tk.cells [t]) := by
 have := World.ownsRow_lit (base := W.heap.size) (e := 42) (size := 3) W #[.int .i64 t.kind, .string t.s, .int .i64 t.at_] 1 (Nat.le_refl _) (by decide) (by simp)
 exact this
theorem toks_form {W : World} {A : Option Addr} {c n : Nat} {toks : List Tk} {B : Nat} (h : W.ownsRow B 42 3 (.slice A n c) n (flatG Tk.cells toks)) : n = toks.length ∧ n ≤ c ∧ c ≤ 9223372036854775807 ∧ TkSl W W.heap.size A toks := by
 obtain ⟨hn, A', c', hv, h1, h2, h3⟩ := own_formG tk_ok h
 injection hv with e1 e2 e3
 subst e1 e3
 exact ⟨hn, h1, h2, h3⟩
set_option maxHeartbeats 12800000 in
theorem law_brackets (ts : List Tk) (A : Option Addr) (c : Nat) (w : World) (hsl : TkSl w w.heap.size A ts) (hc : ts.length ≤ c) (hcm : c ≤ 9223372036854775807) (hz : ∀ x ∈ ts, x.s.size ≤ 140737488351232) (hgl : GlC w) (hng : 9 ≤ w.heap.size) :
   Calls Tryz.prog 4 #[.slice A ts.length c] w fun r w' => r = .returned (.bool true) ∧ RowKit.Below w.heap.size w w' := by
 obtain ⟨i0, hi, hz0, hz1, hz2⟩ := info_parts tok_info
 have HQK := Lib.hid (fun W => law_quick ⟨#[40, 53, 41]⟩ _ read_br.1 read_br.2 W (by decide))
 have HSL := Lib.hid hsl
 have HZ := Lib.hid hz
 have HGL := Lib.hid hgl
 have HNM := Lib.hid (fun W => law_num 5 W)
 have HLC := Lib.hid hc
 clear hsl hz hgl
 go_enter Tryz.func4, Tryz.ntmps4
 go_wp2_with fail
 refine (HQK.out w).mono ?_
 rintro r w1 ⟨A1, c1, rfl, h1, hb1, h2, h3⟩
 have HB1 := Lib.hid hb1
 have HP := Lib.hid (phrase_Parse _ A1 c1 w1 h2 h3 h1 (by intro x hx; simp only [List.mem_cons, List.not_mem_nil, or_false] at hx; rcases hx with rfl | rfl | rfl <;> (show _ ≤ 140737488351232; rw [← toList_len]; simp [bsOf_list, tSg])) (HGL.out.far hb1 hng) (Nat.le_trans hng hb1.size))
 rw [fact_br] at HP
 clear h1 hb1 h2 h3 HQK
 go_wp2_with fail
 refine HP.out.mono ?_
 rintro r w2 ⟨A2, c2, rfl, h1, h2, h3, hb2⟩
 have HB2 := Lib.hid (HB1.out.trans (hb2.mono HB1.out.size))
 have H3 := Lib.hid h3
 clear h1 h2 h3 hb2 HP HB1
 go_wp2_with fail
 refine (HNM.out w2).mono ?_
 rintro r w3 ⟨rfl, hb3⟩
 have HB3 := Lib.hid (HB2.out.trans (hb3.mono HB2.out.size))
 have hs5 : NdSl (w3.alloc (.cells #[.int .i64 2, .int .i64 5, .string ⟨#[]⟩, .string ⟨#[]⟩] 29)) (w3.alloc (.cells #[.int .i64 2, .int .i64 5, .string ⟨#[]⟩, .string ⟨#[]⟩] 29)).heap.size (some ⟨w3.heap.size, 0, none⟩) [numX 5] := by
   have hn := nds_one w3 (numX 5)
   obtain ⟨A', c', hv, -, -, hs, -⟩ := hn
   injection hv with hv
   injection hv with e1 e2 e3
   subst e1
   exact hs
 have hb0 : RowKit.Below w3.heap.size w3 (w3.alloc (.cells #[.int .i64 2, .int .i64 5, .string ⟨#[]⟩, .string ⟨#[]⟩] 29)) := by (repeat (first | assumption | exact Below.refl _ _ | apply Below.drew | apply below_drewN | (refine Below.alloc ?_ (by first | exact Nat.le_refl _ | omega | (simp; done) | (simp; omega)) _)))
 have HSN := Lib.hid (same_Nodes [numX 5] A2 (some ⟨w3.heap.size, 0, none⟩) c2 1 _ (((H3.out.below (hb3.mono (Nat.le_refl _))).below (hb0.mono hb3.size)).more (by have := hb3.size; simp; omega)) hs5 (by simp))
 have HB4 := Lib.hid (HB3.out.trans (hb0.mono HB3.out.size))
 clear hb3 hs5 hb0 H3 HB2
 go_wp2_with fail
 refine HSN.out.mono ?_
 rintro r w4 ⟨rfl, hb4⟩
 have HB5 := Lib.hid (HB4.out.trans (hb4.mono HB4.out.size))
 clear hb4 HSN HB3 HB4
 have HP2 := Lib.hid (phrase_Parse ts A c w4 hc hcm ((HSL.out.below HB5.out).more HB5.out.size) HZ.out (HGL.out.far HB5.out hng) (Nat.le_trans hng HB5.out.size))
 obtain ⟨⟨e, a, k⟩, hq⟩ : ∃ q, parseP ts = q := ⟨_, rfl⟩
 rw [hq] at HP2
 have HQ := Lib.hid hq
 clear hq
 go_wp2_with fail
 refine HP2.out.mono ?_
 rintro r w5 ⟨A5, c5, rfl, h1, h2, h3, hb5⟩
 have HB6 := Lib.hid (HB5.out.trans (hb5.mono HB5.out.size))
 have H3 := Lib.hid h3
 have h1 : e.length ≤ c5 := h1
 clear h3 hb5 HP2 HB5
 by_cases k0 : k = 0
 case neg =>
   have tk : (k != 0) = true := by simpa using k0
   clear k0
   go_wp2_with fail
   go_ret
   exact ⟨rfl, HB6.out⟩
 case pos =>
   subst k0
   obtain ⟨hl3, hs, hp, he, ha⟩ := parse_ok HQ.out
   by_cases h302 : 300 < ts.length + 2
   · have t302 : decide ((300 : Int) < (ts.length : Int) + 2) = true := by simp; omega
     have i64 : IntKind.wrap .i64 ((ts.length : Int) + 2) = (ts.length : Int) + 2 := IntWalk.i64_in _ (by omega)
     clear h302 hs hp
     go_wp2_with fail
     go_ret
     exact ⟨rfl, HB6.out⟩
   · have t302 : decide ((300 : Int) < (ts.length : Int) + 2) = false := by simp; omega
     have i64 : IntKind.wrap .i64 ((ts.length : Int) + 2) = (ts.length : Int) + 2 := IntWalk.i64_in _ (by omega)
     have hne : ts ≠ [] := by
       rintro rfl
       obtain ⟨f, hf⟩ := hp
       have := pa_sh f .whole []
       rw [hf] at this
       obtain ⟨pre, h5, h6⟩ := this
       simp at h5
       subst h5
       simp [PT.starts] at h6
     have HBP := Lib.hid (brackets_plain HQ.out (by omega))
     have HGD := Lib.hid (parse_gd HQ.out)
     obtain ⟨b, o, rfl, hb, -⟩ := HSL.out hne
     have HC := Lib.hid (fun j u hu => SlG.flat tk_ok (HSL.out.below HB6.out) j u hu)
     have hz6 := HB6.out.size
     have HLT := Lib.hid (tk_lit w5 (tSg [40]))
     have hel : e.length ≤ 200 := he
     clear h302 hs hp hne he
     go_wp2_with (first | (at_builtin; refine wpList_append_own _ rfl (.tmp 45) (.tmp 46) 23 rfl w5.heap.size 42 i0 _ 3 32 Tryz.underlying23 hi hz0 hz1 hz2 rfl (by omega) (.slice (some ⟨w5.heap.size, 0, none⟩) 1 1) 1 (flatG Tk.cells [tSg [40]]) rfl HLT.out ⟨b, o, none⟩ ts.length c (flatG Tk.cells ts) rfl (flatG_len tk_ok ts) (fun j u hu => ((RowKit.Below.refl w5.heap.size w5).alloc (Nat.le_refl _) _).cell (by rw [block_addG]; show b < _; omega) |>.trans (HC.out j u hu)) (flatG_cell tk_ok ts) (by unfold maxLen; omega) (by omega) (by simp) ?_; intro v6 w6 hown6 hgrow6 _; rw [← flatG_append] at hown6; obtain ⟨A6, c6, hv6, hc6⟩ := own_sl hown6; subst hv6; have HR6 : Hid ((w6.alloc (.cells #[.int .i64 5, .string ⟨#[41]⟩, .int .i64 0] 42)).ownsRow w5.heap.size 42 3 (.slice A6 (1 + ts.length) c6) (1 + ts.length) (flatG Tk.cells ([tSg [40]] ++ ts))) := own_keep hown6 (by (repeat (first | assumption | exact Below.refl _ _ | apply Below.drew | apply below_drewN | (refine Below.alloc ?_ (by first | exact Nat.le_refl _ | omega | (simp; done) | (simp; omega)) _)))); have HB7 : Hid (RowKit.Below w5.heap.size w5 w6) := ((RowKit.Below.refl w5.heap.size w5).alloc (Nat.le_refl _) _).grown hgrow6 (by simp) (fun q hq => (own_lt HLT.out hq).1); clear hown6 hgrow6) | (at_builtin; refine wpList_append_own _ rfl (.tmp 48) (.tmp 50) 23 rfl w5.heap.size 42 i0 _ 3 32 Tryz.underlying23 hi hz0 hz1 hz2 rfl (by omega) (.slice A6 (1 + ts.length) c6) (1 + ts.length) (flatG Tk.cells ([tSg [40]] ++ ts)) rfl HR6.out ⟨w6.heap.size, 0, none⟩ 1 1 (flatG Tk.cells [tSg [41]]) rfl rfl (new_flatG w6 _ (tSg [41]) _ rfl _ rfl) (flatG_cell tk_ok [tSg [41]]) (by unfold maxLen; omega) (by omega) (by have := HB7.out.size; simp; omega) ?_; intro v7 w7 hown7 hgrow7 _; rw [← flatG_append] at hown7; obtain ⟨A7, c7, hv7, hc7⟩ := own_sl hown7; subst hv7; have HR7 := Lib.hid hown7; have HB8 : Hid (RowKit.Below w5.heap.size w5 w7) := (HB7.out.alloc HB7.out.size _).grown hgrow7 (by have := HB7.out.size; simp; omega) (fun q hq => (own_lt HR6.out hq).1); clear hown7 hgrow7))
     have hus : [tSg [40]] ++ ts ++ [tSg [41]] = tSg [40] :: (ts ++ [tSg [41]]) := by simp
     rw [hus] at HR7
     obtain ⟨hn7, hc8, hm8, hs8⟩ := toks_form HR7.out
     have HB9 := Lib.hid (HB6.out.trans (HB8.out.mono hz6))
     have HP3 := Lib.hid (phrase_Parse (tSg [40] :: (ts ++ [tSg [41]])) A7 c7 w7 (by rw [← hn7]; exact hc8) hm8 hs8 (fun x hx => by
       rcases List.mem_cons.1 hx with rfl | hx
       · show _ ≤ 140737488351232; rw [← toList_len]; simp [bsOf_list, tSg]
       · rcases List.mem_append.1 hx with hx | hx
         · exact HZ.out x hx
         · rw [List.mem_singleton] at hx; subst hx; show _ ≤ 140737488351232; rw [← toList_len]; simp [bsOf_list, tSg]) (HGL.out.far HB9.out hng) (Nat.le_trans hng HB9.out.size))
     rw [HBP.out, ← hn7] at HP3
     have HS5 := Lib.hid (H3.out.below HB8.out)
     clear hus hn7 hc8 hm8 hs8 HR7 HB7 HR6 HLT HC HQ
     refine HP3.out.mono ?_
     rintro r w8 ⟨A8, c8, rfl, g1, g2, g3, hb8⟩
     have g3 : NdSl w8 w8.heap.size A8 e := g3
     have HSM := Lib.hid (same_Nodes e A8 A5 c8 c5 w8 g3 ((HS5.out.below (hb8.mono HB8.out.size)).more (by have := HB8.out.size; have := hb8.size; omega)) (by omega))
     have HBA := Lib.hid (HB9.out.trans (hb8.mono HB9.out.size))
     clear g1 g2 g3 hb8 HP3
     go_wp2_with fail
     refine HSM.out.mono ?_
     rintro r w10 ⟨rfl, hb10⟩
     have HBB := Lib.hid (HBA.out.trans (hb10.mono HBA.out.size))
     clear hb10 HSM
     go_wp2_with fail
     go_ret
     exact ⟨rfl, HBB.out⟩
end Go.Proofs.YtbggbcnfkcadjaaGreatDoor
namespace Go.Proofs.YtbggbcnfkcadjaaGreatDoor
set_option maxRecDepth 100000
open Go Go.ChangeShapes Go.WideShapes Go.ChangeAt Go.RowKit Go.WideMaps
def laidB : List (String × DataW Unit) := [("math/bits.deBruijn32tab", Rows.laid_math_bits_deBruijn32tab), ("math/bits.deBruijn64tab", Rows.laid_math_bits_deBruijn64tab), ("internal/strconv.uint64pow10", Rows.laid_internal_strconv_uint64pow10), ("unicode/utf8.acceptRanges", Rows.laid_unicode_utf8_acceptRanges), ("strconv.ErrRange", Rows.laid_strconv_ErrRange), ("strconv.ErrSyntax", Rows.laid_strconv_ErrSyntax), ("unicode/utf8.first", Rows.laid_unicode_utf8_first)]
theorem Tryz.gsyn : Tryz.prog.globalNamed "strconv.ErrSyntax" = some 7 := by kernel_rfl
theorem Tryz.gran : Tryz.prog.globalNamed "strconv.ErrRange" = some 8 := by kernel_rfl
theorem Tryz.tsyn : (Tryz.prog.globals[7]?).map (·.type) = some 25 := by kernel_rfl
theorem Tryz.tran : (Tryz.prog.globals[8]?).map (·.type) = some 25 := by kernel_rfl
theorem err_of_laid {W : World} {n nm : String} {g : Nat} {d : DataW Unit} (hg : Tryz.prog.globalNamed n = some g) (ht : (Tryz.prog.globals[g]?).map (·.type) = some 25) (h : laidMet Tryz.prog [(n, .iface nm d)] W) : ∃ v, W.cell? ⟨g, 0, none⟩ = some v ∧ (v = .nilIface ∨ ∃ te pe, v = .iface te pe) := by
 obtain ⟨ps, hv, -⟩ := h
 obtain ⟨g', t, cs, fuel, p, q, e1, e2, e3, e4, -⟩ := hv
 obtain rfl := Option.some.inj (hg.symm.trans e1)
 obtain rfl := Option.some.inj (ht.symm.trans e2)
 obtain ⟨f2, u, v, hc, -⟩ := iface_of_trod Tryz.underlying25 e4
 refine ⟨.iface u v, ?_, .inr ⟨u, v, rfl⟩⟩
 have := World.var?_cell hg e3 0
 rw [this, ← Array.getElem?_toList, hc]; rfl
theorem gl_of_laid {W : World} (h : laidMetH Tryz.prog laidB W) : GlC W := by
 have h1 : laidMet Tryz.prog [("strconv.ErrSyntax", Rows.laid_strconv_ErrSyntax)] W := h.filter fun x => x.1 == "strconv.ErrSyntax"
 have h2 : laidMet Tryz.prog [("strconv.ErrRange", Rows.laid_strconv_ErrRange)] W := h.filter fun x => x.1 == "strconv.ErrRange"
 exact ⟨err_of_laid Tryz.gsyn Tryz.tsyn h1, err_of_laid Tryz.gran Tryz.tran h2⟩
theorem GlC.ng {W : World} (h : GlC W) : 9 ≤ W.heap.size := by
 obtain ⟨v, h1, -⟩ := h.syn
 obtain ⟨u, h2, -⟩ := h.ran
 have l1 := World.block_lt_of_cell? W _ h1
 have l2 := World.block_lt_of_cell? W _ h2
 simp at l1 l2
 omega
noncomputable def laidWorldB (os : Os) : World := World.laidAll Tryz.prog os laidB
theorem laidWorldB_os (os : Os) : (laidWorldB os).os = os := World.laidAll_os _ _ _
theorem laidWorldB_met (os : Os) (args : Array Value) : laidMetH Tryz.prog laidB ((laidWorldB os).forCall (fun _ _ => 0) ⟨#[], args, []⟩).memory :=
 laidMetH_of_parts (laidMet_of_run' 8 (by kernel_rfl) (by kernel_rfl)) (by kernel_rfl)
end Go.Proofs.YtbggbcnfkcadjaaGreatDoor
