/-
  THE WALK of the law TruthSplits.
-/
import Derived.Test.YtnhcjpmamgdeoaaTrLaw
namespace Go.Proofs.Ytnhcjpmamgdeoaa
open Go.RowKit Go.Sort

theorem trN_tree (b : Bool) : treeErr [trN b] = 0 := by
  cases b <;> simp [trN, treeErr, bGo, shapedT, ndParts, valErr, vGo, shapedV, ByteArray.toList_mk]
theorem putV_len (e : List Nd) (s : ByteArray) (v : List Nd) : (putV e s v).1.length ≤ 200 := by
  unfold putV
  split
  · simp
  · split
    · simp
    · split
      · simp
      · show (putL e s v).length ≤ 200
        omega
theorem putV_tree {e : List Nd} {s : ByteArray} {b : Bool} (h : (putV e s [trN b]).2 = 0) : (putV e s [trN b]).1 = putL e s [trN b] ∧ treeErr (putL e s [trN b]) = 0 := by
  obtain ⟨h1, h2, h3, h4⟩ := put_ok h
  exact ⟨h4, put_tree h1 h2 h3⟩
/-- A cell that is read, in a later world. -/
def RdS (b i : Nat) (v : Value) (w1 W : World) : Prop := W.cell? ⟨b, i, none⟩ = some v ∧ RowKit.Below w1.heap.size w1 W
theorem RdS.keep {b i : Nat} {v : Value} {w1 W W' : World} (h : RdS b i v w1 W) (hb : RowKit.Below W.heap.size W W') (hl : b < w1.heap.size) : RdS b i v w1 W' :=
  ⟨(hb.cell (p := ⟨b, i, none⟩) (by have := h.2.size; show b < W.heap.size; omega)).trans h.1, h.2.trans (hb.mono h.2.size)⟩
set_option maxRecDepth 100000 in
set_option maxHeartbeats 12800000 in
theorem law_splits_in (e : List Nd) (A : Option Addr) (c : Nat) (ss : List (List UInt8)) (An : Option Addr) (cn : Nat) (k : Nat) (w : World) (hc : e.length ≤ c) (hcm : c ≤ 9223372036854775807) (hok : NdOk e) (hsl : NdSl w w.heap.size A e) (hss : StrSl w w.heap.size An ss) (hn : ss.length ≤ cn) (hcn : cn ≤ 9223372036854775807) (hk : k < ss.length) (hsz : ∀ l ∈ ss, l.length ≤ 140737488351232) :
    Calls Try.prog 4 #[.slice A e.length c, .slice An ss.length cn, .int .i64 k] w fun r w' => r = .returned (.bool true) ∧ RowKit.Below w.heap.size w w' := by
  obtain ⟨j0, hj, hy0, hy1, hy2⟩ := info_parts nd_info
  obtain ⟨x, hx⟩ : ∃ x, ss[k]? = some x := ⟨_, List.getElem?_eq_getElem hk⟩
  obtain ⟨b, o, rfl, hb, hcs⟩ := hss.at_ hk
  have c0 : w.cell? ⟨b, o + k, none⟩ = some (.string (bsL x)) := hcs k x hx
  have HMEM := Lib.hid (List.mem_of_getElem? hx)
  have HPU := Lib.hid (fun bb W A' c' (hW : RowKit.Below w.heap.size w W) (hg : NsGood W W.heap.size ⟨A', c', [trN bb]⟩) => tree_Put e [trN bb] (bsL x) A A' c c' W hc hcm hok ((hsl.below hW).more hW.size) hg.le hg.max (tree_ok (trN_tree bb)) hg.sl)
  have HON := Lib.hid (fun W (hW : RowKit.Below w.heap.size w W) => truth_Ones e A c ss (some ⟨b, o, none⟩) cn W hc hcm hok ((hsl.below hW).more hW.size) ((hss.below hW).more hW.size) hn hcn)
  have HON2 := Lib.hid (fun (y : List Nd) Ay cy (hle : y.length ≤ cy) (hm : cy ≤ 9223372036854775807) (hyo : NdOk y) W (hW : RowKit.Below w.heap.size w W) (hs : NdSl W W.heap.size Ay y) => truth_Ones y Ay cy ss (some ⟨b, o, none⟩) cn W hle hm hyo hs ((hss.below hW).more hW.size) hn hcn)
  have HAL := Lib.hid (fun (y : List Nd) Ay cy (hle : y.length ≤ cy) (hm : cy ≤ 9223372036854775807) (hyo : NdOk y) W (hW : RowKit.Below w.heap.size w W) (hs : NdSl W W.heap.size Ay y) => truth_Alike e y A c Ay cy ss (some ⟨b, o, none⟩) cn W hc hcm hok ((hsl.below hW).more hW.size) hle hm hyo hs ((hss.below hW).more hW.size) hn hcn)
  have HTR := Lib.hid r3_Truth
  obtain ⟨P1, hP1⟩ : ∃ P, putV e (bsL x) [trN true] = P := ⟨_, rfl⟩
  obtain ⟨P2, hP2⟩ : ∃ P, putV e (bsL x) [trN false] = P := ⟨_, rfl⟩
  have HPT : Hid (∀ W A' c' (hW : RowKit.Below w.heap.size w W) (hg : NsGood W W.heap.size ⟨A', c', [trN true]⟩), Calls Try.prog 11 #[.slice A e.length c, .string (bsL x), .slice A' 1 c'] W fun r w' => NdsBack W r w' P1.1 P1.2) := by
    intro W A' c' hW hg; rw [← hP1]; exact HPU.out true W A' c' hW hg
  have HPF : Hid (∀ W A' c' (hW : RowKit.Below w.heap.size w W) (hg : NsGood W W.heap.size ⟨A', c', [trN false]⟩), Calls Try.prog 11 #[.slice A e.length c, .string (bsL x), .slice A' 1 c'] W fun r w' => NdsBack W r w' P2.1 P2.2) := by
    intro W A' c' hW hg; rw [← hP2]; exact HPU.out false W A' c' hW hg
  have HP1 := Lib.hid hP1
  have HP2 := Lib.hid hP2
  have lP1 : P1.1.length ≤ 200 := by rw [← hP1]; exact putV_len _ _ _
  have lP2 : P2.1.length ≤ 200 := by rw [← hP2]; exact putV_len _ _ _
  have HBL := Lib.hid (bsL_toList x)
  have HSZ : Hid ((bsL x).size ≤ 140737488351232) := by show _ ≤ _; rw [← toList_len, bsL_toList]; exact hsz _ HMEM.out
  have HOK := Lib.hid hok
  clear hP1 hP2 HPU hx hcs hok hsl hss
  obtain ⟨on0, hon0⟩ : ∃ q, onesP e ss = q := ⟨_, rfl⟩
  obtain ⟨fr0, hfr0⟩ : ∃ q, frmErr e ss = q := ⟨_, rfl⟩
  rw [hon0, hfr0] at HON
  have HO0 := Lib.hid hon0
  have HF0 := Lib.hid hfr0
  clear hon0 hfr0
  generalize hsv : bsL x = s at *
  clear hsv
  go_enter Try.func4, Try.ntmps4
  go_wp2_with fail
  refine (law_tabled w).mono ?_
  rintro r w1 ⟨rfl, hb1⟩
  have c1 : w1.cell? ⟨b, o + k, none⟩ = some (.string s) := (hb1.cell (p := ⟨b, o + k, none⟩) hb).trans c0
  have hbw : b < w1.heap.size := by have := hb1.size; omega
  have i1 : 0 ≤ (k : Int) := by omega
  have i2 : (k : Int) < (ss.length : Int) := by omega
  have i3 : ¬ (ss.length : Int) ≤ (k : Int) := by omega
  go_wp2_with fail
  have HS0 : Hid (RdS b (o + k) (.string s) w1 w1.drew) := Lib.hid ⟨c1, (RowKit.Below.refl _ _).drew⟩
  go_region_held3 (fun W => W.cell? ⟨b, o + k, none⟩ = some (.string s) ∧ RowKit.Below w1.heap.size w1 W) (first | exact HS0.out | exact RdS.keep (by assumption) hb hbw)
    (first
      | (go_at_call 12; ((with_reducible refine (HTR.out true _).mono ?_)); rintro r W ⟨A2, c2, rfl, g2, hb⟩; have q2 : RowKit.Below w.heap.size w W := hb1.trans (((RowKit.Below.refl _ _).drew.trans hb).mono hb1.size))
      | (go_at_call 11; ((with_reducible refine (HPT.out _ A2 c2 q2 g2).mono ?_)); rintro r W ⟨A3, c3, rfl, h31, h32, h33, hb⟩; have q3 : RowKit.Below w.heap.size w W := q2.trans (hb.mono q2.size)))
  have hb3 := q3
  have HG3 := Lib.hid (NsGood.mk (w := W) (B := W.heap.size) (x := ⟨A3, c3, P1.1⟩) h33 h31 h32)
  have hSS : RdS b (o + k) (.string s) w1 W := by assumption
  obtain ⟨c2', hb2'⟩ := hSS
  have hbW : b < W.heap.size := by have := hb2'.size; omega
  clear g2 q2 h31 h32 h33 HS0 c1
  obtain ⟨w3, rfl⟩ : ∃ w3 : World, w3 = W := ⟨_, rfl⟩
  go_wp2_with fail
  have HS1 : Hid (RdS b (o + k) (.string s) w3 w3.drew) := Lib.hid ⟨c2', (RowKit.Below.refl _ _).drew⟩
  go_region_held3 (fun W => W.cell? ⟨b, o + k, none⟩ = some (.string s) ∧ RowKit.Below w3.heap.size w3 W) (first | exact HS1.out | exact RdS.keep (by assumption) hb hbW)
    (first
      | (go_at_call 12; ((with_reducible refine (HTR.out false _).mono ?_)); rintro r W ⟨A4, c4, rfl, g4, hb⟩; have q4 : RowKit.Below w.heap.size w W := q3.trans (((RowKit.Below.refl _ _).drew.trans hb).mono q3.size))
      | (go_at_call 11; ((with_reducible refine (HPF.out _ A4 c4 q4 g4).mono ?_)); rintro r W ⟨A5, c5, rfl, h51, h52, h53, hb⟩; have q5 : RowKit.Below w.heap.size w W := q4.trans (hb.mono q4.size)))
  have HG5 := Lib.hid (NsGood.mk (w := W) (B := W.heap.size) (x := ⟨A5, c5, P2.1⟩) h53 h51 h52)
  have hSS : RdS b (o + k) (.string s) w3 W := by assumption
  obtain ⟨c5', hb5'⟩ := hSS
  have HG3b := Lib.hid (HG3.out.later hb5')
  clear g4 q4 h51 h52 h53 HS1 c2' HG3
  obtain ⟨w5, rfl⟩ : ∃ w5 : World, w5 = W := ⟨_, rfl⟩
  go_wp2_with fail
  refine (HON.out _ q5).mono ?_
  rintro r w6 ⟨rfl, hb6⟩
  have q6 := q5.trans (hb6.mono q5.size)
  have HG3c := Lib.hid (HG3b.out.later hb6)
  have HG5b := Lib.hid (HG5.out.later hb6)
  have c6 : w6.cell? ⟨b, o + k, none⟩ = some (.string s) := (hb6.cell (p := ⟨b, o + k, none⟩) (by have := hb5'.size; show b < _; omega)).trans c5'
  have hb6w : b < w6.heap.size := by have := hb6.size; have := hb5'.size; omega
  clear HG3b HG5 hb6 c5' hb5'
  by_cases k1 : P1.2 = 0
  · by_cases k2 : P2.2 = 0
    · by_cases k3 : fr0 = 0
      · by_cases k4 : P1.1.length + P2.1.length + 2 ≤ 200
        · have t1 : (P1.2 != 0) = false := by simp [k1]
          have t2 : (P2.2 != 0) = false := by simp [k2]
          have t3 : (fr0 != 0) = false := by simp [k3]
          have t4 : ¬ 200 < (P1.1.length : Int) + (P2.1.length : Int) + 2 := by omega
          obtain ⟨e1, tr1⟩ := putV_tree (by rw [HP1.out]; exact k1)
          obtain ⟨e2, tr2⟩ := putV_tree (by rw [HP2.out]; exact k2)
          rw [HP1.out] at e1
          rw [HP2.out] at e2
          have HK3 : Hid (frmErr e ss = 0) := by show _ = _; rw [HF0.out]; exact k3
          have HL1 : Hid (P1.1 = putL e s [trN true]) := e1
          have HL2 : Hid (P2.1 = putL e s [trN false]) := e2
          have HT1 : Hid (treeErr P1.1 = 0) := by show _ = _; rw [e1]; exact tr1
          have HT2 : Hid (treeErr P2.1 = 0) := by show _ = _; rw [e2]; exact tr2
          clear k1 k2 k3 e1 e2 tr1 tr2
          generalize hL1 : P1.1 = L1 at *
          generalize hL2 : P2.1 = L2 at *
          clear hL1 hL2
          go_wp2_with fail
          refine (law_name s w6).mono ?_
          rintro r w7 ⟨rfl, hb7⟩
          have q7 := q6.trans (hb7.mono q6.size)
          have HG3d := Lib.hid (HG3c.out.later hb7)
          have HG5c := Lib.hid (HG5b.out.later hb7)
          clear HG3c HG5b hb7 c6
          obtain ⟨sv, hsv⟩ : ∃ sv : Nd, sv = ⟨8, 0, s, ⟨#[]⟩⟩ := ⟨_, rfl⟩
          have HSV := Lib.hid hsv
          have hgv : NsGood (w7.alloc (.cells #[.int .i64 8, .int .i64 0, .string s, .string ⟨#[]⟩] 42)) (w7.alloc (.cells #[.int .i64 8, .int .i64 0, .string s, .string ⟨#[]⟩] 42)).heap.size ⟨some ⟨w7.heap.size, 0, none⟩, 1, [sv]⟩ := by
            rw [hsv]
            exact ⟨nds_new w7 42 [⟨8, 0, s, ⟨#[]⟩⟩] _ rfl, Nat.le_refl _, by show 1 ≤ 9223372036854775807; omega⟩
          have q8 : RowKit.Below w.heap.size w (w7.alloc (.cells #[.int .i64 8, .int .i64 0, .string s, .string ⟨#[]⟩] 42)) := q7.alloc q7.size _
          have al7 : RowKit.Below w7.heap.size w7 (w7.alloc (.cells #[.int .i64 8, .int .i64 0, .string s, .string ⟨#[]⟩] 42)) := by (repeat (first | assumption | exact Below.refl _ _ | apply Below.drew | apply below_drewN | (refine Below.alloc ?_ (by first | exact Nat.le_refl _ | omega | (simp; done) | (simp; omega)) _)))
          have HCK := Lib.hid (tree_Check [sv] (some ⟨w7.heap.size, 0, none⟩) 1 _ (Nat.le_refl _) (by omega) (by rw [hsv]; intro y hy; simp at hy; subst hy; exact ⟨HSZ.out, Nat.zero_le _⟩) hgv.sl)
          have HGV := Lib.hid hgv
          have HG3e := Lib.hid (HG3d.out.later al7)
          have HG5d := Lib.hid (HG5c.out.later al7)
          clear hsv hgv al7 HG3d HG5c
          generalize hw8 : w7.alloc _ = w8 at q8 HCK HGV HG3e HG5d
          go_wp2_with fail
          refine HCK.out.mono ?_
          rintro r w9 ⟨rfl, hb9⟩
          have q9 := q8.trans (hb9.mono q8.size)
          have HGV9 := Lib.hid (HGV.out.later hb9)
          have HG39 := Lib.hid (HG3e.out.later hb9)
          have HG59 := Lib.hid (HG5d.out.later hb9)
          clear HCK HGV HG3e HG5d hb9 hw8
          by_cases kv : treeErr [sv] = 0
          · have tv : (treeErr [sv] != 0) = false := by simp [kv]
            have HKV := Lib.hid kv
            clear kv
            obtain ⟨bx, ox, A1e, hbx, -⟩ : ∃ bx ox, some (⟨w7.heap.size, 0, none⟩ : Addr) = some ⟨bx, ox, none⟩ ∧ bx < w9.heap.size ∧ True := ⟨w7.heap.size, 0, rfl, by have := q7.size; have := HGV9.out.sl (by simp); obtain ⟨b', o', e', h', _⟩ := this; injection e' with e'; injection e' with e'; omega, trivial⟩
            have hne1 : L1 ≠ [] := by intro h; have := (tree_len HT1.out).2; rw [h] at this; simp at this
            have hne2 : L2 ≠ [] := by intro h; have := (tree_len HT2.out).2; rw [h] at this; simp at this
            obtain ⟨b3, o3, rfl, hb3l, -⟩ := HG39.out.sl hne1
            obtain ⟨b5, o5, rfl, hb5l, -⟩ := HG59.out.sl hne2
            have HFV := Lib.hid (fun W (hW : RowKit.Below w9.heap.size w9 W) j u hu => NdSl.flat (HGV9.out.later hW).sl j u hu)
            have HF1 := Lib.hid (fun W (hW : RowKit.Below w9.heap.size w9 W) j u hu => NdSl.flat (HG39.out.later hW).sl j u hu)
            have HF2 := Lib.hid (fun W (hW : RowKit.Below w9.heap.size w9 W) j u hu => NdSl.flat (HG59.out.later hW).sl j u hu)
            obtain ⟨iv, hiv⟩ : ∃ iv : Nd, iv = ⟨13, 0, ⟨#[]⟩, ⟨#[]⟩⟩ := ⟨_, rfl⟩
            have ho := World.ownsRow_lit (base := w9.heap.size) (e := 42) (size := 4) w9 #[.int .i64 13, .int .i64 0, .string ⟨#[]⟩, .string ⟨#[]⟩] 1 (Nat.le_refl _) (by decide) (by simp)
            rw [show (#[.int .i64 13, .int .i64 0, .string ⟨#[]⟩, .string ⟨#[]⟩] : Array Value).toList = flat [iv] from by rw [hiv]; simp [flat, Nd.cells]] at ho
            have HO := Lib.hid ho
            have HIV := Lib.hid hiv
            have hb10 : RowKit.Below w9.heap.size w9 (w9.alloc (.cells #[.int .i64 13, .int .i64 0, .string ⟨#[]⟩, .string ⟨#[]⟩] 42)) := by (repeat (first | assumption | exact Below.refl _ _ | apply Below.drew | apply below_drewN | (refine Below.alloc ?_ (by first | exact Nat.le_refl _ | omega | (simp; done) | (simp; omega)) _)))
            clear ho hiv hne1 hne2 A1e hbx
            go_wp2_with (first
              | (at_builtin; refine wpList_append_own _ rfl (.tmp 88) (.tmp 89) 22 rfl w9.heap.size 42 j0 _ 4 48 Try.underlying22 hj hy0 hy1 hy2 rfl (by omega) _ 1 (flat [iv]) rfl HO.out ⟨w7.heap.size, 0, none⟩ 1 1 (flat [sv]) rfl (flat_len [sv]) (HFV.out _ hb10) (flat_one_cell _) (by unfold maxLen; omega) (by omega) (by simp) ?_; intro v1 wa hown1 hgrow1 _; have hba : RowKit.Below w9.heap.size w9 wa := hb10.grown hgrow1 hb10.size (fun q hq => (own_lt HO.out hq).1); have HOa := Lib.hid hown1; rw [← flat_append] at hown1; obtain ⟨A1, d1, rfl, hd1, hm1, hs1⟩ := own_form_new hown1; clear hgrow1 hown1 hs1)
              | (at_builtin; refine wpList_append_own _ rfl (.tmp 90) (.tmp 91) 22 rfl w9.heap.size 42 j0 _ 4 48 Try.underlying22 hj hy0 hy1 hy2 rfl (by omega) _ (1 + 1) (flat [iv] ++ flat [sv]) rfl HOa.out ⟨b3, o3, none⟩ L1.length c3 (flat L1) rfl (flat_len L1) (HF1.out _ hba) (flat_one_cell _) (by unfold maxLen; omega) (by omega) hba.size ?_; intro v2 wb hown2 hgrow2 _; have hbb : RowKit.Below w9.heap.size w9 wb := hba.grown hgrow2 hba.size (fun q hq => (own_lt HOa.out hq).1); have HOb := Lib.hid hown2; rw [← flat_append, ← flat_append] at hown2; obtain ⟨A2, d2, rfl, hd2, hm2, hs2⟩ := own_form_new hown2; clear hgrow2 hown2 hs2)
              | (at_builtin; refine wpList_append_own _ rfl (.tmp 92) (.tmp 93) 22 rfl w9.heap.size 42 j0 _ 4 48 Try.underlying22 hj hy0 hy1 hy2 rfl (by omega) _ (1 + 1 + L1.length) (flat [iv] ++ flat [sv] ++ flat L1) rfl HOb.out ⟨b5, o5, none⟩ L2.length c5 (flat L2) rfl (flat_len L2) (HF2.out _ hbb) (flat_one_cell _) (by unfold maxLen; omega) (by omega) hbb.size ?_; intro v3 wc hown3 hgrow3 _; have hbc : RowKit.Below w9.heap.size w9 wc := hbb.grown hgrow3 hbb.size (fun q hq => (own_lt HOb.out hq).1); rw [← flat_append, ← flat_append, ← flat_append] at hown3; obtain ⟨A6, d6, rfl, hd6, hm6, hs6, -⟩ := own_form_new hown3; have HS6 := Lib.hid hs6; clear hgrow3 hown3 hs6))
            have q10 := q9.trans (hbc.mono q9.size)
            have HG3f := Lib.hid (HG39.out.later hbc)
            have HG5f := Lib.hid (HG59.out.later hbc)
            have HSP := Lib.hid (splits_plain HK3.out (s := s) (by rw [HBL.out]; exact HMEM.out) (by rw [← HL1.out]; exact HT1.out) (by rw [← HL2.out]; exact HT2.out) (x := sv) (i := iv) (by rw [HSV.out]) (by rw [HSV.out]) (by rw [HIV.out]) (by rw [HIV.out]; simp [shapedT, ndParts, ByteArray.toList_mk]) HKV.out (by rw [← HL1.out, ← HL2.out]; omega))
            rw [← HL1.out, ← HL2.out] at HSP
            have HXO : Hid (NdOk (iv :: sv :: (L1 ++ L2))) := by
              intro y hy
              rcases List.mem_cons.1 hy with rfl | hy
              · rw [HIV.out]; exact ⟨Nat.zero_le _, Nat.zero_le _⟩
              · rcases List.mem_cons.1 hy with rfl | hy
                · rw [HSV.out]; exact ⟨HSZ.out, Nat.zero_le _⟩
                · rcases List.mem_append.1 hy with hy | hy
                  · exact tree_ok HT1.out y hy
                  · exact tree_ok HT2.out y hy
            have HXE : Hid ([iv] ++ [sv] ++ L1 ++ L2 = iv :: sv :: (L1 ++ L2)) := by show _ = _; simp
            rw [HXE.out] at HS6
            have HXL : Hid ((iv :: sv :: (L1 ++ L2)).length = 2 + L1.length + L2.length) := by show _ = _; simp; omega
            obtain ⟨X, hX⟩ : ∃ X, iv :: sv :: (L1 ++ L2) = X := ⟨_, rfl⟩
            rw [hX] at HS6 HXL HXO HSP
            obtain ⟨s1, s2, s3, s4, s5⟩ := HSP.out
            obtain ⟨n1, hn1⟩ : ∃ q, onesP L1 ss = q := ⟨_, rfl⟩
            obtain ⟨n2, hn2⟩ : ∃ q, onesP L2 ss = q := ⟨_, rfl⟩
            rw [HO0.out, hn1, hn2] at s5
            have bo : ∀ y, onesP y ss ≤ 64 := fun y => Nat.le_trans List.count_le_length (tableP_le y ss)
            have z0 : on0 ≤ 64 := by rw [← HO0.out]; exact bo _
            have z1 : n1 ≤ 64 := by rw [← hn1]; exact bo _
            have z2 : n2 ≤ 64 := by rw [← hn2]; exact bo _
            have HA := Lib.hid (HAL.out X A6 d6 (by rw [HXL.out]; omega) hm6 HXO.out wc q10 HS6.out)
            rw [s1, s2, HXL.out] at HA
            have HN1 := Lib.hid (fun W hW => HON2.out L1 (some ⟨b3, o3, none⟩) c3 HG3f.out.le HG3f.out.max (tree_ok HT1.out) W hW)
            have HN2 := Lib.hid (fun W hW => HON2.out L2 (some ⟨b5, o5, none⟩) c5 HG5f.out.le HG5f.out.max (tree_ok HT2.out) W hW)
            rw [hn1, s3] at HN1
            rw [hn2, s4] at HN2
            have tf : ((2 * (on0 : Int)) == (n1 : Int) + (n2 : Int)) = true := by rw [beq_iff_eq]; omega
            clear s1 s2 s3 s4 s5 hn1 hn2 hX bo HSP HXE
            refine HA.out.mono ?_
            rintro r wd ⟨rfl, hbd⟩
            have qd := q10.trans (hbd.mono q10.size)
            have HG3g := Lib.hid (HG3f.out.later hbd)
            have HG5g := Lib.hid (HG5f.out.later hbd)
            have t0 := errV_zero
            clear hbd HG3f HG5f HA
            go_wp2_with fail
            refine (HN1.out wd qd HG3g.out.sl).mono ?_
            rintro r we ⟨rfl, hbe⟩
            have qe := qd.trans (hbe.mono qd.size)
            have HG5h := Lib.hid (HG5g.out.later hbe)
            clear hbe HG3g HG5g
            go_wp2_with fail
            refine (HN2.out we qe HG5h.out.sl).mono ?_
            rintro r wf ⟨rfl, hbf⟩
            go_wp2_with fail
            go_ret
            exact ⟨rfl, qe.trans (hbf.mono qe.size)⟩
          · have tv : (treeErr [sv] != 0) = true := by simp [kv]
            clear kv
            go_wp2_with fail
            go_ret
            exact ⟨rfl, q9⟩
        · have t1 : (P1.2 != 0) = false := by simp [k1]
          have t2 : (P2.2 != 0) = false := by simp [k2]
          have t3 : (fr0 != 0) = false := by simp [k3]
          have t4 : 200 < (P1.1.length : Int) + (P2.1.length : Int) + 2 := by omega
          clear k1 k2 k3 k4
          go_wp2_with fail
          go_ret
          exact ⟨rfl, q6⟩
      · have t1 : (P1.2 != 0) = false := by simp [k1]
        have t2 : (P2.2 != 0) = false := by simp [k2]
        have t3 : (fr0 != 0) = true := by simp [k3]
        clear k1 k2 k3
        go_wp2_with fail
        go_ret
        exact ⟨rfl, q6⟩
    · have t1 : (P1.2 != 0) = false := by simp [k1]
      have t2 : (P2.2 != 0) = true := by simp [k2]
      clear k1 k2
      go_wp2_with fail
      go_ret
      exact ⟨rfl, q6⟩
  · have t1 : (P1.2 != 0) = true := by simp [k1]
    clear k1
    go_wp2_with fail
    go_ret
    exact ⟨rfl, q6⟩
set_option maxRecDepth 100000 in
set_option maxHeartbeats 3200000 in
theorem law_splits (e : List Nd) (A : Option Addr) (c : Nat) (ss : List (List UInt8)) (An : Option Addr) (cn : Nat) (k : Int) (w : World) (hc : e.length ≤ c) (hcm : c ≤ 9223372036854775807) (hok : NdOk e) (hsl : NdSl w w.heap.size A e) (hss : StrSl w w.heap.size An ss) (hn : ss.length ≤ cn) (hcn : cn ≤ 9223372036854775807) (hsz : ∀ l ∈ ss, l.length ≤ 140737488351232) :
    Calls Try.prog 4 #[.slice A e.length c, .slice An ss.length cn, .int .i64 k] w fun r w' => r = .returned (.bool true) ∧ RowKit.Below w.heap.size w w' := by
  by_cases h0 : 0 ≤ k
  · obtain ⟨n, rfl⟩ := Int.eq_ofNat_of_zero_le h0
    by_cases h1 : n < ss.length
    · exact law_splits_in e A c ss An cn n w hc hcm hok hsl hss hn hcn h1 hsz
    · have t1 : ¬ (n : Int) < 0 := by omega
      have t2 : (ss.length : Int) ≤ (n : Int) := by omega
      clear hok hsl hss hsz
      go_enter Try.func4, Try.ntmps4
      go_wp2_with fail
      refine (law_tabled w).mono ?_
      rintro r w1 ⟨rfl, hb1⟩
      go_wp2_with fail
      go_ret
      exact ⟨rfl, hb1⟩
  · have t1 : k < 0 := by omega
    clear hok hsl hss hsz
    go_enter Try.func4, Try.ntmps4
    go_wp2_with fail
    refine (law_tabled w).mono ?_
    rintro r w1 ⟨rfl, hb1⟩
    go_wp2_with fail
    go_ret
    exact ⟨rfl, hb1⟩
end Go.Proofs.Ytnhcjpmamgdeoaa
