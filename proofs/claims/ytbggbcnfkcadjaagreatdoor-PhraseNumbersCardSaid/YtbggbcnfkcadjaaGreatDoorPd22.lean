/-
  THE WALK of the law PhraseBack.
  The rows' seven listed variables (tables of the library, and two errors of package strconv): what they give a walk, and a world that meets them.
  The rows' listed table of the powers of ten: what it gives a walk.
  THE WALK of the law PhraseNumbers.
-/
import Derived.Test.YtbggbcnfkcadjaaGreatDoorPd21
import Derived.Test.YtbggbcnfkcadjaaGreatDoorRows
import Derived.Test.YtbggbcnfkcadjaaGreatDoorPd03
import Derived.Test.YtbggbcnfkcadjaaGreatDoorPd06
import Derived.Test.YtbggbcnfkcadjaaGreatDoorTie
import Derived.Test.YtbggbcnfkcadjaaGreatDoorCards
import Derived.ChangeVars
import Derived.JoinedOf
import Derived.LaidLaws
import Derived.LaidHandle
import Derived.Stop.Joined
import Derived.SevenTiedAt
import Derived.LaidMore
import Derived.Lay
import Derived.OpenShut
import Derived.LaidSub
import Derived.ProofKit
import Derived.Test.YtbggbcnfkcadjaaGreatDoorPd17
import Derived.Lib.LaidTab
namespace Go.Proofs.YtbggbcnfkcadjaaGreatDoor
set_option maxRecDepth 100000
open Go.RowKit Go.Sort
theorem TabP.far {w W : World} (h : TabP w) (hb : RowKit.Below w.heap.size w W) : TabP W := Lib.tabBelow_of_tabIs h W hb
theorem sp_size {us : List Tk} (h : ∀ t ∈ us, SpT t) : ∀ t ∈ us, t.s.size ≤ 140737488351232 := fun t ht => by have := (tkS_of (h t ht)).sz; omega
theorem small_nd {x : Nd} (hs : x.s.size ≤ 100) (ht : x.t.size ≤ 100) : x.s.size ≤ 140737488351232 ∧ x.t.size ≤ 140737488351232 := ⟨by omega, by omega⟩
theorem exB_ok : NdOk exB := by
 intro x hx
 simp only [exB, List.mem_cons, List.not_mem_nil, or_false] at hx
 rcases hx with rfl | rfl | rfl | rfl | rfl <;> exact small_nd (by decide) (by decide)
structure NdArg (w : World) (A : Option Addr) (c : Nat) (e : List Nd) : Prop where
 sl : NdSl w w.heap.size A e
 le : e.length ≤ c
 max : c ≤ 9223372036854775807
 ok : NdOk e
 num : NumK e
set_option maxHeartbeats 12800000 in
theorem law_back (e : List Nd) (A : Option Addr) (c : Nat) (w : World) (ha : NdArg w A c e) (hgl : GlC w) (htab : TabP w) (hng : 9 ≤ w.heap.size) :
   Calls Tryz.prog 8 #[.slice A e.length c] w fun r w' => r = .returned (.bool true) ∧ RowKit.Below w.heap.size w w' := by
 have HQK := Lib.hid (fun W => law_quick ⟨#[40, 49, 32, 43, 32, 50, 41, 32, 42, 32, 51]⟩ _ read_pb.1 read_pb.2 W (by decide))
 have HA := Lib.hid ha
 have HGL := Lib.hid hgl
 have HTB := Lib.hid htab
 have HN1 := Lib.hid (fun W => law_num 1 W)
 have HN2 := Lib.hid (fun W => law_num 2 W)
 have HN3 := Lib.hid (fun W => law_num 3 W)
 clear ha hgl htab
 go_enter Tryz.func8, Tryz.ntmps8
 go_wp2_with fail
 refine (HN1.out w).mono ?_
 rintro r w1 ⟨rfl, hb1⟩
 go_wp2_with fail
 refine (HN2.out w1).mono ?_
 rintro r w2 ⟨rfl, hb2⟩
 go_wp2_with fail
 refine (HN3.out w2).mono ?_
 rintro r w3 ⟨rfl, hb3⟩
 have HB3 := Lib.hid ((hb1.trans (hb2.mono hb1.size)).trans (hb3.mono (by have := hb1.size; have := hb2.size; omega)))
 have hlit := nds_lit w3 exB #[.int .i64 19, .int .i64 0, .string ⟨#[]⟩, .string ⟨#[]⟩, .int .i64 17, .int .i64 0, .string ⟨#[]⟩, .string ⟨#[]⟩, .int .i64 2, .int .i64 1, .string ⟨#[]⟩, .string ⟨#[]⟩, .int .i64 2, .int .i64 2, .string ⟨#[]⟩, .string ⟨#[]⟩, .int .i64 2, .int .i64 3, .string ⟨#[]⟩, .string ⟨#[]⟩] rfl (by decide)
 obtain ⟨Al, cl, hvl, -, -, hsl, -⟩ := own_form_new hlit
 injection hvl with e1 e2 e3
 subst e1 e3
 have hb0 : RowKit.Below w3.heap.size w3 (w3.alloc (.cells #[.int .i64 19, .int .i64 0, .string ⟨#[]⟩, .string ⟨#[]⟩, .int .i64 17, .int .i64 0, .string ⟨#[]⟩, .string ⟨#[]⟩, .int .i64 2, .int .i64 1, .string ⟨#[]⟩, .string ⟨#[]⟩, .int .i64 2, .int .i64 2, .string ⟨#[]⟩, .string ⟨#[]⟩, .int .i64 2, .int .i64 3, .string ⟨#[]⟩, .string ⟨#[]⟩] 29)) := by (repeat (first | assumption | exact Below.refl _ _ | apply Below.drew | apply below_drewN | (refine Below.alloc ?_ (by first | exact Nat.le_refl _ | omega | (simp; done) | (simp; omega)) _)))
 have HB4 := Lib.hid (HB3.out.trans (hb0.mono HB3.out.size))
 have HPR := Lib.hid (phrase_Print exB _ _ _ (Nat.le_refl _) (by decide) hsl exB_ok exB_num (HTB.out.far HB4.out))
 rw [fact_pb] at HPR
 clear hb1 hb2 hb3 hlit hsl hb0 e2 HN1 HN2 HN3 HB3
 go_wp2_with fail
 refine HPR.out.mono ?_
 rintro r w5 ⟨⟨A5, c5, rfl, -, -, h5⟩, hb5⟩
 have HB5 := Lib.hid (HB4.out.trans (hb5.mono HB4.out.size))
 have H5 := Lib.hid h5
 clear hb5 h5 HPR HB4
 go_wp2_with fail
 refine (HQK.out w5).mono ?_
 rintro r w6 ⟨A6, c6, rfl, h6, hb6, -, -⟩
 have HB6 := Lib.hid (HB5.out.trans (hb6.mono HB5.out.size))
 have HST := Lib.hid (same_Tokens _ A5 A6 c5 c6 w6 ((H5.out.below hb6).more hb6.size) h6 (by decide))
 clear hb6 h6 H5 HB5 HQK
 go_wp2_with fail
 refine HST.out.mono ?_
 rintro r w7 ⟨rfl, hb7⟩
 have HB7 := Lib.hid (HB6.out.trans (hb7.mono HB6.out.size))
 clear hb7 HST HB6
 have HP := Lib.hid (phrase_Print e A c w7 HA.out.le HA.out.max ((HA.out.sl.below HB7.out).more HB7.out.size) HA.out.ok HA.out.num (HTB.out.far HB7.out))
 obtain ⟨⟨us, k⟩, hq⟩ : ∃ q, printP e = q := ⟨_, rfl⟩
 rw [hq] at HP
 have HQ := Lib.hid hq
 clear hq
 go_wp2_with fail
 refine HP.out.mono ?_
 rintro r w8 ⟨⟨A8, c8, rfl, l8, m8, h8⟩, hb8⟩
 have l8 : us.length ≤ c8 := l8
 have h8 : TkSl w8 w8.heap.size A8 us := h8
 have HB8 := Lib.hid (HB7.out.trans (hb8.mono HB7.out.size))
 have H8 := Lib.hid h8
 clear hb8 h8 HP HB7
 by_cases k0 : k = 0
 case neg =>
   have tk : (k != 0) = true := by simpa using k0
   clear k0
   go_wp2_with fail
   go_ret
   exact ⟨rfl, HB8.out⟩
 case pos =>
   subst k0
   obtain ⟨hp, hs⟩ := back_plain HA.out.num HQ.out
   obtain ⟨-, -, -, he, -⟩ := printP_ok HQ.out
   have HPP := Lib.hid (phrase_Parse us A8 c8 w8 l8 m8 H8.out (sp_size hs) (HGL.out.far HB8.out hng) (Nat.le_trans hng HB8.out.size))
   rw [hp] at HPP
   clear hp hs
   go_wp2_with fail
   refine HPP.out.mono ?_
   rintro r w9 ⟨A9, c9, rfl, g1, g2, g3, hb9⟩
   have g3 : NdSl w9 w9.heap.size A9 e := g3
   have HB9 := Lib.hid (HB8.out.trans (hb9.mono HB8.out.size))
   have HSM := Lib.hid (same_Nodes e A9 A c9 c w9 g3 ((HA.out.sl.below HB9.out).more HB9.out.size) (by omega))
   clear g1 g2 g3 hb9 HPP HB8
   go_wp2_with fail
   refine HSM.out.mono ?_
   rintro r w10 ⟨rfl, hb10⟩
   have HBA := Lib.hid (HB9.out.trans (hb10.mono HB9.out.size))
   clear hb10 HSM
   go_wp2_with fail
   go_ret
   exact ⟨rfl, HBA.out⟩
end Go.Proofs.YtbggbcnfkcadjaaGreatDoor
namespace Go.Proofs.YtbggbcnfkcadjaaGreatDoor
set_option maxRecDepth 100000
open Go Go.ChangeShapes Go.WideShapes Go.ChangeAt Go.RowKit Go.WideMaps
def laidB : List (String × DataW Unit) := [("math/bits.deBruijn32tab", Rows.laid_math_bits_deBruijn32tab), ("math/bits.deBruijn64tab", Rows.laid_math_bits_deBruijn64tab), ("internal/strconv.uint64pow10", Rows.laid_internal_strconv_uint64pow10), ("unicode/utf8.acceptRanges", Rows.laid_unicode_utf8_acceptRanges), ("strconv.ErrRange", Rows.laid_strconv_ErrRange), ("strconv.ErrSyntax", Rows.laid_strconv_ErrSyntax), ("unicode/utf8.first", Rows.laid_unicode_utf8_first)]
theorem Tryz.gsyn : Tryz.prog.globalNamed "strconv.ErrSyntax" = some 7 := by kernel_rfl
theorem Tryz.gran : Tryz.prog.globalNamed "strconv.ErrRange" = some 8 := by kernel_rfl
theorem Tryz.tsyn : (Tryz.prog.globals[7]?).map (·.type) = some 25 := by kernel_rfl
theorem Tryz.tran : (Tryz.prog.globals[8]?).map (·.type) = some 25 := by kernel_rfl
theorem err_of_laid {W : World} {n nm : String} {g : Nat} {d : DataW Unit} (hg : Tryz.prog.globalNamed n = some g) (ht : (Tryz.prog.globals[g]?).map (·.type) = some 25) (h : laidMet Tryz.prog [(n, .iface nm d)] W) : ∃ v, W.cell? ⟨g, 0, none⟩ = some v ∧ (v = .nilIface ∨ ∃ te pe, v = .iface te pe) := by
 obtain ⟨ps, hv, -⟩ := h
 obtain ⟨g', t, cs, fuel, p, q, e1, e2, e3, e4, -⟩ := hv
 obtain rfl := Option.some.inj (hg.symm.trans e1)
 obtain rfl := Option.some.inj (ht.symm.trans e2)
 obtain ⟨f2, u, v, hc, -⟩ := iface_of_trod Tryz.underlying25 e4
 refine ⟨.iface u v, ?_, .inr ⟨u, v, rfl⟩⟩
 have := World.var?_cell hg e3 0
 rw [this, ← Array.getElem?_toList, hc]; rfl
theorem gl_of_laid {W : World} (h : laidMetH Tryz.prog laidB W) : GlC W := by
 have h1 : laidMet Tryz.prog [("strconv.ErrSyntax", Rows.laid_strconv_ErrSyntax)] W := h.filter fun x => x.1 == "strconv.ErrSyntax"
 have h2 : laidMet Tryz.prog [("strconv.ErrRange", Rows.laid_strconv_ErrRange)] W := h.filter fun x => x.1 == "strconv.ErrRange"
 exact ⟨err_of_laid Tryz.gsyn Tryz.tsyn h1, err_of_laid Tryz.gran Tryz.tran h2⟩
theorem GlC.ng {W : World} (h : GlC W) : 9 ≤ W.heap.size := by
 obtain ⟨v, h1, -⟩ := h.syn
 obtain ⟨u, h2, -⟩ := h.ran
 have l1 := World.block_lt_of_cell? W _ h1
 have l2 := World.block_lt_of_cell? W _ h2
 simp at l1 l2
 omega
noncomputable def laidWorldB (os : Os) : World := World.laidAll Tryz.prog os laidB
theorem laidWorldB_os (os : Os) : (laidWorldB os).os = os := World.laidAll_os _ _ _
theorem laidWorldB_met (os : Os) (args : Array Value) : laidMetH Tryz.prog laidB ((laidWorldB os).forCall (fun _ _ => 0) ⟨#[], args, []⟩).memory :=
 laidMetH_of_parts (laidMet_of_run' 8 (by kernel_rfl) (by kernel_rfl)) (by kernel_rfl)
end Go.Proofs.YtbggbcnfkcadjaaGreatDoor
namespace Go.Proofs.YtbggbcnfkcadjaaGreatDoor
set_option maxRecDepth 100000
open Go Go.ChangeShapes Go.WideShapes Go.ChangeAt Go.RowKit Go.WideMaps
theorem Tryz.gpow : Tryz.prog.globalNamed "internal/strconv.uint64pow10" = some 2 := by kernel_rfl
theorem Tryz.tpow : (Tryz.prog.globals[2]?).map (·.type) = some 232 := by kernel_rfl
theorem pow_data : (Rows.laid_internal_strconv_uint64pow10 : DataW Unit) = Lib.tabData .u64 Lib.pow10Tab := by rfl
theorem tab_of_laid {W : World} (h : laidMetH Tryz.prog laidB W) : TabP W := by
 have h1 : laidMet Tryz.prog [("internal/strconv.uint64pow10", Rows.laid_internal_strconv_uint64pow10)] W := h.filter fun x => x.1 == "internal/strconv.uint64pow10"
 rw [pow_data] at h1
 exact Lib.tabIs_of_head Tryz.gpow Tryz.tpow Tryz.underlying232 Tryz.underlying214 (by kernel_rfl) (by kernel_rfl) h1
end Go.Proofs.YtbggbcnfkcadjaaGreatDoor
namespace Go.Proofs.YtbggbcnfkcadjaaGreatDoor
set_option maxRecDepth 100000
open Go.RowKit Go.Sort
theorem empty_sz : (⟨#[]⟩ : ByteArray).size ≤ 100 := by decide
theorem one_ok (n : Int) : NdOk [numX n] := by
 intro x hx
 simp only [List.mem_cons, List.not_mem_nil, or_false] at hx
 subst hx; exact small_nd empty_sz empty_sz
theorem neg_ok (n : Int) : NdOk (negX n) := by
 intro x hx
 simp only [negX, List.mem_cons, List.not_mem_nil, or_false] at hx
 rcases hx with rfl | rfl <;> exact small_nd empty_sz empty_sz
theorem one_num {n : Int} (h : -9223372036854775808 ≤ n ∧ n ≤ 9223372036854775807) : NumK [numX n] := by
 intro x hx h2
 simp only [List.mem_cons, List.not_mem_nil, or_false] at hx
 subst hx; exact h
theorem neg_num {n : Int} (h : -9223372036854775808 ≤ n ∧ n ≤ 9223372036854775807) : NumK (negX n) := by
 intro x hx h2
 simp only [negX, List.mem_cons, List.not_mem_nil, or_false] at hx
 rcases hx with rfl | rfl
 · simp at h2
 · exact h
theorem both_plain {e : List Nd} (h : treeErr e = 0) (hl : (wordsW e).length ≤ 300) (hk : NumK e) : ∃ us, printP e = (us, 0) ∧ parseP us = (e, 0, 0) ∧ ∀ t ∈ us, t.s.size ≤ 140737488351232 := by
 have := printP_of h hl
 obtain ⟨h1, h2⟩ := back_plain hk this
 exact ⟨_, this, h1, sp_size h2⟩
set_option maxHeartbeats 12800000 in
theorem law_numbers (n : Int) (hn : -9223372036854775808 ≤ n ∧ n ≤ 9223372036854775807) (w : World) (hgl : GlC w) (htab : TabP w) (hng : 9 ≤ w.heap.size) :
   Calls Tryz.prog 9 #[.int .i64 n] w fun r w' => r = .returned (.bool true) ∧ RowKit.Below w.heap.size w w' := by
 obtain ⟨us1, p1, q1, z1⟩ := both_plain (one_tree n) (one_words n) (one_num hn)
 obtain ⟨us2, p2, q2, z2⟩ := both_plain (neg_tree n) (neg_words n) (neg_num hn)
 have HNM := Lib.hid (fun W => law_num n W)
 have HGL := Lib.hid hgl
 have HTB := Lib.hid htab
 have HP1 := Lib.hid p1
 have HP2 := Lib.hid p2
 have HQ1 := Lib.hid q1
 have HQ2 := Lib.hid q2
 have HZ1 := Lib.hid z1
 have HZ2 := Lib.hid z2
 have HN := Lib.hid hn
 clear hgl htab p1 p2 q1 q2 z1 z2 hn
 go_enter Tryz.func9, Tryz.ntmps9
 go_wp2_with fail
 refine (HNM.out w).mono ?_
 rintro r w1 ⟨rfl, hb1⟩
 have HB1 := Lib.hid hb1
 clear hb1
 have hlit := nds_lit w1 [numX n] #[.int .i64 2, .int .i64 n, .string ⟨#[]⟩, .string ⟨#[]⟩] rfl (by simp)
 obtain ⟨Al, cl, hvl, -, -, hsl, -⟩ := own_form_new hlit
 injection hvl with e1 e2 e3
 subst e1 e3
 have hb0 : RowKit.Below w1.heap.size w1 (w1.alloc (.cells #[.int .i64 2, .int .i64 n, .string ⟨#[]⟩, .string ⟨#[]⟩] 29)) := by (repeat (first | assumption | exact Below.refl _ _ | apply Below.drew | apply below_drewN | (refine Below.alloc ?_ (by first | exact Nat.le_refl _ | omega | (simp; done) | (simp; omega)) _)))
 have HL1 := Lib.hid (HB1.out.trans (hb0.mono HB1.out.size))
 have HPR := Lib.hid (phrase_Print [numX n] _ _ _ (Nat.le_refl _) (by simp) hsl (one_ok n) (one_num HN.out) (HTB.out.far HL1.out))
 rw [HP1.out] at HPR
 clear hlit hsl hb0 e2 HB1
 go_wp2_with fail
 refine HPR.out.mono ?_
 rintro r w2 ⟨⟨A2, c2, rfl, l2, m2, h2⟩, hb2⟩
 have l2 : us1.length ≤ c2 := l2
 have h2 : TkSl w2 w2.heap.size A2 us1 := h2
 have HB2 := Lib.hid (HL1.out.trans (hb2.mono HL1.out.size))
 have HPP := Lib.hid (phrase_Parse us1 A2 c2 w2 l2 m2 h2 HZ1.out (HGL.out.far HB2.out hng) (Nat.le_trans hng HB2.out.size))
 rw [HQ1.out] at HPP
 clear hb2 h2 l2 m2 HPR HL1
 go_wp2_with fail
 refine HPP.out.mono ?_
 rintro r w3 ⟨A3, c3, rfl, g1, g2, g3, hb3⟩
 have g3 : NdSl w3 w3.heap.size A3 [numX n] := g3
 have HB3 := Lib.hid (HB2.out.trans (hb3.mono HB2.out.size))
 have HX1 := Lib.hid g3
 clear g1 g2 g3 hb3 HPP HB2
 go_wp2_with fail
 refine (HNM.out w3).mono ?_
 rintro r w4 ⟨rfl, hb4⟩
 have HX := Lib.hid ((HX1.out.below hb4).more hb4.size)
 have HB4 := Lib.hid (HB3.out.trans (hb4.mono HB3.out.size))
 clear hb4 HB3 HX1
 have hlit := nds_lit w4 [numX n] #[.int .i64 2, .int .i64 n, .string ⟨#[]⟩, .string ⟨#[]⟩] rfl (by simp)
 obtain ⟨Al, cl, hvl, -, -, hsl, -⟩ := own_form_new hlit
 injection hvl with e1 e2 e3
 subst e1 e3
 have hb0 : RowKit.Below w4.heap.size w4 (w4.alloc (.cells #[.int .i64 2, .int .i64 n, .string ⟨#[]⟩, .string ⟨#[]⟩] 29)) := by (repeat (first | assumption | exact Below.refl _ _ | apply Below.drew | apply below_drewN | (refine Below.alloc ?_ (by first | exact Nat.le_refl _ | omega | (simp; done) | (simp; omega)) _)))
 have HL4 := Lib.hid (HB4.out.trans (hb0.mono HB4.out.size))
 have HSM := Lib.hid (same_Nodes [numX n] A3 _ c3 1 _ ((HX.out.below hb0).more hb0.size) hsl (by simp))
 clear hlit hsl hb0 e2 HX HB4
 go_wp2_with fail
 refine HSM.out.mono ?_
 rintro r w5 ⟨rfl, hb5⟩
 have HB5 := Lib.hid (HL4.out.trans (hb5.mono HL4.out.size))
 clear hb5 HSM HL4
 go_wp2_with fail
 refine (HNM.out w5).mono ?_
 rintro r w6 ⟨rfl, hb6⟩
 have HB6 := Lib.hid (HB5.out.trans (hb6.mono HB5.out.size))
 clear hb6 HB5
 have hlit := nds_lit w6 (negX n) #[.int .i64 10, .int .i64 0, .string ⟨#[]⟩, .string ⟨#[]⟩, .int .i64 2, .int .i64 n, .string ⟨#[]⟩, .string ⟨#[]⟩] rfl (by simp [negX])
 obtain ⟨Al, cl, hvl, -, -, hsl, -⟩ := own_form_new hlit
 injection hvl with e1 e2 e3
 subst e1 e3
 have hb0 : RowKit.Below w6.heap.size w6 (w6.alloc (.cells #[.int .i64 10, .int .i64 0, .string ⟨#[]⟩, .string ⟨#[]⟩, .int .i64 2, .int .i64 n, .string ⟨#[]⟩, .string ⟨#[]⟩] 29)) := by (repeat (first | assumption | exact Below.refl _ _ | apply Below.drew | apply below_drewN | (refine Below.alloc ?_ (by first | exact Nat.le_refl _ | omega | (simp; done) | (simp; omega)) _)))
 have HL6 := Lib.hid (HB6.out.trans (hb0.mono HB6.out.size))
 have HPR := Lib.hid (phrase_Print (negX n) _ _ _ (Nat.le_refl _) (by simp [negX]) hsl (neg_ok n) (neg_num HN.out) (HTB.out.far HL6.out))
 rw [HP2.out] at HPR
 clear hlit hsl hb0 e2 HB6
 go_wp2_with fail
 refine HPR.out.mono ?_
 rintro r w7 ⟨⟨A7, c7, rfl, l7, m7, h7⟩, hb7⟩
 have l7 : us2.length ≤ c7 := l7
 have h7 : TkSl w7 w7.heap.size A7 us2 := h7
 have HB7 := Lib.hid (HL6.out.trans (hb7.mono HL6.out.size))
 have HPP := Lib.hid (phrase_Parse us2 A7 c7 w7 l7 m7 h7 HZ2.out (HGL.out.far HB7.out hng) (Nat.le_trans hng HB7.out.size))
 rw [HQ2.out] at HPP
 clear hb7 h7 l7 m7 HPR HL6
 go_wp2_with fail
 refine HPP.out.mono ?_
 rintro r w8 ⟨A8, c8, rfl, g1, g2, g3, hb8⟩
 have g3 : NdSl w8 w8.heap.size A8 (negX n) := g3
 have HB8 := Lib.hid (HB7.out.trans (hb8.mono HB7.out.size))
 have HX2 := Lib.hid g3
 clear g1 g2 g3 hb8 HPP HB7
 go_wp2_with fail
 refine (HNM.out w8).mono ?_
 rintro r w9 ⟨rfl, hb9⟩
 have HX := Lib.hid ((HX2.out.below hb9).more hb9.size)
 have HB9 := Lib.hid (HB8.out.trans (hb9.mono HB8.out.size))
 clear hb9 HB8 HX2
 have hlit := nds_lit w9 (negX n) #[.int .i64 10, .int .i64 0, .string ⟨#[]⟩, .string ⟨#[]⟩, .int .i64 2, .int .i64 n, .string ⟨#[]⟩, .string ⟨#[]⟩] rfl (by simp [negX])
 obtain ⟨Al, cl, hvl, -, -, hsl, -⟩ := own_form_new hlit
 injection hvl with e1 e2 e3
 subst e1 e3
 have hb0 : RowKit.Below w9.heap.size w9 (w9.alloc (.cells #[.int .i64 10, .int .i64 0, .string ⟨#[]⟩, .string ⟨#[]⟩, .int .i64 2, .int .i64 n, .string ⟨#[]⟩, .string ⟨#[]⟩] 29)) := by (repeat (first | assumption | exact Below.refl _ _ | apply Below.drew | apply below_drewN | (refine Below.alloc ?_ (by first | exact Nat.le_refl _ | omega | (simp; done) | (simp; omega)) _)))
 have HL9 := Lib.hid (HB9.out.trans (hb0.mono HB9.out.size))
 have HSM := Lib.hid (same_Nodes (negX n) A8 _ c8 2 _ ((HX.out.below hb0).more hb0.size) hsl (by simp [negX]))
 clear hlit hsl hb0 e2 HX HB9
 go_wp2_with fail
 refine HSM.out.mono ?_
 rintro r w10 ⟨rfl, hb10⟩
 have HB10 := Lib.hid (HL9.out.trans (hb10.mono HL9.out.size))
 clear hb10 HSM HL9
 go_wp2_with fail
 go_ret
 exact ⟨rfl, HB10.out⟩
end Go.Proofs.YtbggbcnfkcadjaaGreatDoor
