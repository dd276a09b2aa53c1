/-
  THE WALK of the law TruthTables.
-/
import Derived.Test.YtnhcjpmamgdeoaaDoorRfE
import Derived.Test.YtnhcjpmamgdeoaaDoorTrT
import Derived.Test.YtnhcjpmamgdeoaaDoorTold
namespace Go.Proofs.YtnhcjpmamgdeoaaDoor
open Go.RowKit Go.Sort

theorem bs_nodes0 (W : World) : (Instr.buildSlice 22 0 #[]).run Tryd.prog W = .ok (.slice (some ⟨W.heap.size, 0, none⟩) 0 0) (W.alloc (.cells #[] 47)) := by kernel_rfl
set_option maxRecDepth 100000 in
set_option maxHeartbeats 25600000 in
theorem tables_A1 (a b : List Nd) (A : Option Addr) (c : Nat) (B : Option Addr) (d : Nat) (ss : List (List UInt8)) (An : Option Addr) (cn : Nat) (w : World) (hg : ErrCell w)
    (hc : a.length ≤ c) (hcm : c ≤ 9223372036854775807) (hok : NdOk a) (hsl : NdSl w w.heap.size A a) (hd : b.length ≤ d) (hdm : d ≤ 9223372036854775807) (hokb : NdOk b) (hslb : NdSl w w.heap.size B b)
    (hss : StrSl w w.heap.size An ss) (hn : ss.length ≤ cn) (hcn : cn ≤ 9223372036854775807) (hk : frmErr a ss = 0) (hx : ¬ treeErr b = 0) :
    Calls Tryd.prog 4 #[.slice A a.length c, .slice B b.length d, .slice An ss.length cn] w fun r w' => r = .returned (.bool true) ∧ RowKit.Below w.heap.size w w' := by
  have ha := (frm_ok.1 hk).1
  have hlt := hg.lt
  have HG := Lib.hid hg
  have HSA := Lib.hid hsl
  have HSB := Lib.hid hslb
  have HF := Lib.hid (fun W (hW : RowKit.Below w.heap.size w W) => r4_FormulaFault a A c ss An cn W (by omega) hok ((hsl.below hW).more hW.size) ((hss.below hW).more hW.size) hn hcn)
  have HTB := Lib.hid (fun W (hW : RowKit.Below w.heap.size w W) => truth_Table a A c ss An cn W hc hcm hok ((hsl.below hW).more hW.size) ((hss.below hW).more hW.size) hn hcn)
  have HON := Lib.hid (fun W (hW : RowKit.Below w.heap.size w W) => truth_Ones a A c ss An cn W hc hcm hok ((hsl.below hW).more hW.size) ((hss.below hW).more hW.size) hn hcn)
  have HFA := Lib.hid (fun W (hW : RowKit.Below w.heap.size w W) => r2_Fault a A c W (by omega) hok ((hsl.below hW).more hW.size))
  have HFB := Lib.hid (fun W (hW : RowKit.Below w.heap.size w W) => r2_Fault b B d W (by omega) hokb ((hslb.below hW).more hW.size))
  have HATO := Lib.hid (fun W A' c' (hW : RowKit.Below w.heap.size w W) (hl : (a ++ b).length ≤ 400) (hs : NdSl W W.heap.size A' (a ++ b)) => r4_AtomsFault (a ++ b) A' c' ss An cn W (by omega) hs ((hss.below hW).more hW.size) hn hcn)
  have HTBL := Lib.hid (fun hf W (hW : RowKit.Below w.heap.size w W) => table_ref b ss hf B d An cn W hokb ((hslb.below hW).more hW.size) ((hss.below hW).more hW.size))
  have HALK := Lib.hid (fun W (hW : RowKit.Below w.heap.size w W) => truth_Alike a b A c B d ss An cn W hc hcm hok ((hsl.below hW).more hW.size) hd hdm hokb ((hslb.below hW).more hW.size) ((hss.below hW).more hW.size) hn hcn)
  have t0 := errV_zero
  have HT := Lib.hid (fun W (hW : RowKit.Below w.heap.size w W) => table_ref a ss hk A c An cn W hok ((hsl.below hW).more hW.size) ((hss.below hW).more hW.size))
  have h6 := (frm_use hk).2.2.2
  have hTL : (tabB (evL a) ss).length = 2 ^ ss.length := tabB_len _ _
  have h64 : (2 : Nat) ^ ss.length ≤ 64 := Nat.pow_le_pow_right (by omega) h6
  have HTP : (tableP a ss).1 = tabB (evL a) ss := by unfold tableP; rw [if_neg (by simp [hk])]
  have HOP : onesP a ss = onesL (tabB (evL a) ss) := by unfold onesP; rw [HTP]
  have HTA := Lib.hid (frm_ok.1 hk).1
  rw [hk] at HF HTB HON
  rw [HTP] at HTB
  rw [HOP, errV_zero] at HON
  obtain ⟨T, hT⟩ : ∃ T, tabB (evL a) ss = T := ⟨_, rfl⟩
  have HTD := Lib.hid hT
  rw [hT] at HT HTB HON hTL
  have hTl : T.length ≤ 64 := by omega
  obtain ⟨N, hN⟩ : ∃ N, onesL T = N := ⟨_, rfl⟩
  have HN := Lib.hid hN
  rw [hN] at HON
  have HE0 := Lib.hid (fun W (hW : ErrCell W) => same_Error 0 W hW)
  rw [errV_zero] at HE0
  have HAE : alikeErr a b ss = treeErr b := by unfold alikeErr; rw [if_neg (by simp [ha]), if_pos hx]
  have HAL := Lib.hid (fun W (hW : RowKit.Below w.heap.size w W) => HALK.out W hW)
  rw [show alikeB a b ss = false from by unfold alikeB; rw [if_pos (by rw [HAE]; exact hx)], HAE] at HAL
  have tk : (treeErr b == 0) = false := by simp [hx]
  clear HALK HAE
  rw [ha] at HFA
  generalize treeErr b = k at HFB HAL tk
  have HEk := Lib.hid (fun W (hW : ErrCell W) => same_Error k W hW)
  clear hx
  clear hok hsl hss hg hk hokb hslb
  clear ha
  clear hTL h6 hT hN h64 HTP HOP
  go_enter Tryd.func4, Tryd.ntmps4
  go_wp2_with fail
  refine (law_tabled w).mono ?_
  rintro r w1 ⟨rfl, hw1⟩
  go_wp2_with fail
  refine (HF.out _ hw1).mono ?_
  rintro r w2 ⟨rfl, hb2⟩
  have hw2 : RowKit.Below w.heap.size w w2 := hw1.trans (hb2.mono hw1.size)
  clear hb2
  go_wp2_with fail
  refine (HT.out _ hw2).mono ?_
  rintro r w3 ⟨A3, c3, rfl, _, _, hs3, hb3⟩
  have hw3 : RowKit.Below w.heap.size w w3 := hw2.trans (hb3.mono hw2.size)
  have HS3 := Lib.hid hs3
  clear hb3 hs3
  go_wp2_with fail
  go_loop [10, 11] (fun nn kk => ∃ (j : Nat) (m : Nat), kk = .int .i64 j ∧ nn = .int .i64 m ∧ j ≤ T.length ∧ m ≤ j ∧ Hid (m = onesL (T.take j))) (fun _ kk => T.length - (intOf kk).toNat)
  case atStart => exact ⟨0, 0, rfl, rfl, by omega, by omega, rfl⟩
  case round =>
    obtain ⟨j, m, rfl, rfl, hj, hm, HM⟩ := hrel
    by_cases hlj : j < T.length
    · obtain ⟨x, hx⟩ : ∃ x, T[j]? = some x := ⟨_, List.getElem?_eq_getElem hlj⟩
      obtain ⟨b3, o3, rfl, hb3, d0⟩ := boSl_at HS3.out hx
      have HST := Lib.hid (ones_step hx)
      clear hx
      cases x
      · have HM2 : Hid (m = onesL (T.take (j + 1))) := by show _ = _; rw [HST.out, HM.out]; rfl
        go_wp2_with fail
        exact ⟨⟨j + 1, m, by go_num, rfl, by omega, by omega, HM2⟩, by simp [intOf]; omega⟩
      · have HM2 : Hid (m + 1 = onesL (T.take (j + 1))) := by show _ = _; rw [HST.out, HM.out]; rfl
        go_wp2_with fail
        exact ⟨⟨j + 1, m + 1, by go_num, by go_num, by omega, by omega, HM2⟩, by simp [intOf]; omega⟩
    · obtain rfl : m = N := by
        have := HM.out
        rw [List.take_of_length_le (by omega)] at this
        rw [this, HN.out]
      clear HM
      go_wp2_with fail
      refine (HTB.out _ hw3).mono ?_
      rintro r w4 ⟨A4, c4, rfl, _, _, hs4, hb4⟩
      have hw4 : RowKit.Below w.heap.size w w4 := hw3.trans (hb4.mono hw3.size)
      have h34 : RowKit.Below w3.heap.size w3 w4 := hb4
      have HS4 := Lib.hid hs4
      clear hb4 hs4
      go_wp2_with fail
      refine (HE0.out w4 (HG.out.below hw4 hlt)).mono ?_
      rintro r w5 ⟨rfl, hb5⟩
      have hw5 : RowKit.Below w.heap.size w w5 := hw4.trans (hb5.mono hw4.size)
      have h35 : RowKit.Below w3.heap.size w3 w5 := h34.trans (hb5.mono h34.size)
      have HS5 := Lib.hid ((HS4.out.below hb5).more hb5.size)
      clear hb5 HS4
      go_wp2_with fail
      go_loopw [15] (fun kv wr => ∃ k : Nat, kv = .int .i64 k ∧ k ≤ T.length ∧ RowKit.Below w5.heap.size w5 wr) (fun kv _ => T.length - (intOf kv).toNat)
      case atStart => exact ⟨0, rfl, by omega, RowKit.Below.refl _ _⟩
      case round =>
        obtain ⟨k, rfl, hk, hbr⟩ := hrel
        have hzr := hbr.size
        have hwr : RowKit.Below w.heap.size w wr := hw5.trans (hbr.mono hw5.size)
        have h3r : RowKit.Below w3.heap.size w3 wr := h35.trans (hbr.mono h35.size)
        by_cases hlk : k < T.length
        · obtain ⟨x, hx⟩ : ∃ x, T[k]? = some x := ⟨_, List.getElem?_eq_getElem hlk⟩
          obtain ⟨b3, o3, rfl, hb3, d0⟩ := boSl_at ((HS3.out.below h3r).more h3r.size) hx
          obtain ⟨b4, o4, rfl, hb4, d1⟩ := boSl_at ((HS5.out.below hbr).more hzr) hx
          have ra := run_at_bo2 b3 o3 T.length c3 k hlk
          have rb := run_at_bo2 b4 o4 T.length c4 k hlk
          have i3 : (k : Int) < (T.length : Int) := by omega
          clear hx
          cases x
          all_goals
            go_wp2_with fail
            go_quiet (fail)
            go_wp2_with fail
            exact ⟨⟨k + 1, by go_num, by omega, by (repeat (first | assumption | exact Below.refl _ _ | apply Below.drew | apply below_drewN | (refine Below.alloc ?_ (by first | exact Nat.le_refl _ | omega | (simp; done) | (simp; omega)) _)))⟩, by simp [intOf]; omega⟩
        · obtain ⟨w6, hw6e⟩ : ∃ w6 : World, w6 = wr := ⟨_, rfl⟩
          rw [← hw6e] at hwr h3r ⊢
          clear hw6e hbr hzr
          go_wp2_with fail
          refine (HON.out _ hwr).mono ?_
          rintro r w7 ⟨rfl, hb7⟩
          have hw7 : RowKit.Below w.heap.size w w7 := hwr.trans (hb7.mono hwr.size)
          have h37 : RowKit.Below w3.heap.size w3 w7 := h3r.trans (hb7.mono h3r.size)
          clear hb7
          go_wp2_with fail
          refine (HE0.out w7 (HG.out.below hw7 hlt)).mono ?_
          rintro r w8 ⟨rfl, hb8⟩
          have hw8 : RowKit.Below w.heap.size w w8 := hw7.trans (hb8.mono hw7.size)
          have h38 : RowKit.Below w3.heap.size w3 w8 := h37.trans (hb8.mono h37.size)
          clear hb8
          go_wp2_with fail
          refine (HFA.out _ hw8).mono ?_
          rintro r wa ⟨rfl, hba⟩
          have hwa : RowKit.Below w.heap.size w wa := hw8.trans (hba.mono hw8.size)
          have h3a : RowKit.Below w3.heap.size w3 wa := h38.trans (hba.mono h38.size)
          clear hba
          go_wp2_with fail
          refine (HFB.out _ hwa).mono ?_
          rintro r wb ⟨rfl, hbb⟩
          have hwb : RowKit.Below w.heap.size w wb := hwa.trans (hbb.mono hwa.size)
          have h3b : RowKit.Below w3.heap.size w3 wb := h3a.trans (hbb.mono h3a.size)
          clear hbb
          go_wp2_with fail
          refine (HAL.out _ hwb).mono ?_
          rintro r wy ⟨rfl, hby⟩
          have hwy : RowKit.Below w.heap.size w wy := hwb.trans (hby.mono hwb.size)
          clear hby
          go_wp2_with fail
          refine (HEk.out wy (HG.out.below hwy hlt)).mono ?_
          rintro r wz ⟨rfl, hbz⟩
          go_wp2_with fail
          go_ret
          exact ⟨rfl, hwy.trans (hbz.mono hwy.size)⟩
set_option maxRecDepth 100000 in
set_option maxHeartbeats 25600000 in
theorem tables_A2 (a b : List Nd) (A : Option Addr) (c : Nat) (B : Option Addr) (d : Nat) (ss : List (List UInt8)) (An : Option Addr) (cn : Nat) (w : World) (hg : ErrCell w)
    (hc : a.length ≤ c) (hcm : c ≤ 9223372036854775807) (hok : NdOk a) (hsl : NdSl w w.heap.size A a) (hd : b.length ≤ d) (hdm : d ≤ 9223372036854775807) (hokb : NdOk b) (hslb : NdSl w w.heap.size B b)
    (hss : StrSl w w.heap.size An ss) (hn : ss.length ≤ cn) (hcn : cn ≤ 9223372036854775807) (hk : frmErr a ss = 0) (hb : treeErr b = 0) (hx : ¬ atomsErr (a ++ b) ss = 0) :
    Calls Tryd.prog 4 #[.slice A a.length c, .slice B b.length d, .slice An ss.length cn] w fun r w' => r = .returned (.bool true) ∧ RowKit.Below w.heap.size w w' := by
  have ha := (frm_ok.1 hk).1
  have hlt := hg.lt
  have HG := Lib.hid hg
  have HSA := Lib.hid hsl
  have HSB := Lib.hid hslb
  have HF := Lib.hid (fun W (hW : RowKit.Below w.heap.size w W) => r4_FormulaFault a A c ss An cn W (by omega) hok ((hsl.below hW).more hW.size) ((hss.below hW).more hW.size) hn hcn)
  have HTB := Lib.hid (fun W (hW : RowKit.Below w.heap.size w W) => truth_Table a A c ss An cn W hc hcm hok ((hsl.below hW).more hW.size) ((hss.below hW).more hW.size) hn hcn)
  have HON := Lib.hid (fun W (hW : RowKit.Below w.heap.size w W) => truth_Ones a A c ss An cn W hc hcm hok ((hsl.below hW).more hW.size) ((hss.below hW).more hW.size) hn hcn)
  have HFA := Lib.hid (fun W (hW : RowKit.Below w.heap.size w W) => r2_Fault a A c W (by omega) hok ((hsl.below hW).more hW.size))
  have HFB := Lib.hid (fun W (hW : RowKit.Below w.heap.size w W) => r2_Fault b B d W (by omega) hokb ((hslb.below hW).more hW.size))
  have HATO := Lib.hid (fun W A' c' (hW : RowKit.Below w.heap.size w W) (hl : (a ++ b).length ≤ 400) (hs : NdSl W W.heap.size A' (a ++ b)) => r4_AtomsFault (a ++ b) A' c' ss An cn W (by omega) hs ((hss.below hW).more hW.size) hn hcn)
  have HTBL := Lib.hid (fun hf W (hW : RowKit.Below w.heap.size w W) => table_ref b ss hf B d An cn W hokb ((hslb.below hW).more hW.size) ((hss.below hW).more hW.size))
  have HALK := Lib.hid (fun W (hW : RowKit.Below w.heap.size w W) => truth_Alike a b A c B d ss An cn W hc hcm hok ((hsl.below hW).more hW.size) hd hdm hokb ((hslb.below hW).more hW.size) ((hss.below hW).more hW.size) hn hcn)
  have t0 := errV_zero
  have HT := Lib.hid (fun W (hW : RowKit.Below w.heap.size w W) => table_ref a ss hk A c An cn W hok ((hsl.below hW).more hW.size) ((hss.below hW).more hW.size))
  have h6 := (frm_use hk).2.2.2
  have hTL : (tabB (evL a) ss).length = 2 ^ ss.length := tabB_len _ _
  have h64 : (2 : Nat) ^ ss.length ≤ 64 := Nat.pow_le_pow_right (by omega) h6
  have HTP : (tableP a ss).1 = tabB (evL a) ss := by unfold tableP; rw [if_neg (by simp [hk])]
  have HOP : onesP a ss = onesL (tabB (evL a) ss) := by unfold onesP; rw [HTP]
  have HTA := Lib.hid (frm_ok.1 hk).1
  rw [hk] at HF HTB HON
  rw [HTP] at HTB
  rw [HOP, errV_zero] at HON
  obtain ⟨T, hT⟩ : ∃ T, tabB (evL a) ss = T := ⟨_, rfl⟩
  have HTD := Lib.hid hT
  rw [hT] at HT HTB HON hTL
  have hTl : T.length ≤ 64 := by omega
  obtain ⟨N, hN⟩ : ∃ N, onesL T = N := ⟨_, rfl⟩
  have HN := Lib.hid hN
  rw [hN] at HON
  have HE0 := Lib.hid (fun W (hW : ErrCell W) => same_Error 0 W hW)
  rw [errV_zero] at HE0
  have lb := (tree_len hb).1
  have la := (tree_len ha).1
  have neb : b ≠ [] := by intro h; have := (tree_len hb).2; rw [h] at this; simp at this
  have nea : a ≠ [] := by intro h; have := (tree_len ha).2; rw [h] at this; simp at this
  obtain ⟨ba, oa, rfl, hbal, -⟩ := HSA.out nea
  obtain ⟨bb, ob, rfl, hbbl, -⟩ := HSB.out neb
  clear nea neb
  have HAE : alikeErr a b ss = atomsErr (a ++ b) ss := by unfold alikeErr; rw [if_neg (by simp [ha]), if_neg (by simp [hb])]
  have HAL := Lib.hid (fun W (hW : RowKit.Below w.heap.size w W) => HALK.out W hW)
  rw [show alikeB a b ss = false from by unfold alikeB; rw [if_pos (by rw [HAE]; exact hx)], HAE] at HAL
  have tk : (atomsErr (a ++ b) ss == 0) = false := by simp [hx]
  clear HALK HAE
  rw [ha] at HFA
  rw [hb] at HFB
  have hbs := bs_nodes0
  have HF1 := Lib.hid (fun W (hW : RowKit.Below w.heap.size w W) j u hu => NdSl.flat ((HSA.out.below hW).more hW.size) j u hu)
  have HF2 := Lib.hid (fun W (hW : RowKit.Below w.heap.size w W) j u hu => NdSl.flat ((HSB.out.below hW).more hW.size) j u hu)
  obtain ⟨j0, hjj, hy0, hy1, hy2⟩ := info_parts nd_info
  have hlab : a.length + b.length ≤ 400 := by omega
  simp only [List.length_append] at HATO
  generalize atomsErr (a ++ b) ss = k at HATO HAL tk
  have HEk := Lib.hid (fun W (hW : ErrCell W) => same_Error k W hW)
  clear hx
  clear hok hsl hss hg hk hokb hslb
  clear ha
  clear hb
  clear hTL h6 hT hN h64 HTP HOP
  go_enter Tryd.func4, Tryd.ntmps4
  go_wp2_with fail
  refine (law_tabled w).mono ?_
  rintro r w1 ⟨rfl, hw1⟩
  go_wp2_with fail
  refine (HF.out _ hw1).mono ?_
  rintro r w2 ⟨rfl, hb2⟩
  have hw2 : RowKit.Below w.heap.size w w2 := hw1.trans (hb2.mono hw1.size)
  clear hb2
  go_wp2_with fail
  refine (HT.out _ hw2).mono ?_
  rintro r w3 ⟨A3, c3, rfl, _, _, hs3, hb3⟩
  have hw3 : RowKit.Below w.heap.size w w3 := hw2.trans (hb3.mono hw2.size)
  have HS3 := Lib.hid hs3
  clear hb3 hs3
  go_wp2_with fail
  go_loop [10, 11] (fun nn kk => ∃ (j : Nat) (m : Nat), kk = .int .i64 j ∧ nn = .int .i64 m ∧ j ≤ T.length ∧ m ≤ j ∧ Hid (m = onesL (T.take j))) (fun _ kk => T.length - (intOf kk).toNat)
  case atStart => exact ⟨0, 0, rfl, rfl, by omega, by omega, rfl⟩
  case round =>
    obtain ⟨j, m, rfl, rfl, hj, hm, HM⟩ := hrel
    by_cases hlj : j < T.length
    · obtain ⟨x, hx⟩ : ∃ x, T[j]? = some x := ⟨_, List.getElem?_eq_getElem hlj⟩
      obtain ⟨b3, o3, rfl, hb3, d0⟩ := boSl_at HS3.out hx
      have HST := Lib.hid (ones_step hx)
      clear hx
      cases x
      · have HM2 : Hid (m = onesL (T.take (j + 1))) := by show _ = _; rw [HST.out, HM.out]; rfl
        go_wp2_with fail
        exact ⟨⟨j + 1, m, by go_num, rfl, by omega, by omega, HM2⟩, by simp [intOf]; omega⟩
      · have HM2 : Hid (m + 1 = onesL (T.take (j + 1))) := by show _ = _; rw [HST.out, HM.out]; rfl
        go_wp2_with fail
        exact ⟨⟨j + 1, m + 1, by go_num, by go_num, by omega, by omega, HM2⟩, by simp [intOf]; omega⟩
    · obtain rfl : m = N := by
        have := HM.out
        rw [List.take_of_length_le (by omega)] at this
        rw [this, HN.out]
      clear HM
      go_wp2_with fail
      refine (HTB.out _ hw3).mono ?_
      rintro r w4 ⟨A4, c4, rfl, _, _, hs4, hb4⟩
      have hw4 : RowKit.Below w.heap.size w w4 := hw3.trans (hb4.mono hw3.size)
      have h34 : RowKit.Below w3.heap.size w3 w4 := hb4
      have HS4 := Lib.hid hs4
      clear hb4 hs4
      go_wp2_with fail
      refine (HE0.out w4 (HG.out.below hw4 hlt)).mono ?_
      rintro r w5 ⟨rfl, hb5⟩
      have hw5 : RowKit.Below w.heap.size w w5 := hw4.trans (hb5.mono hw4.size)
      have h35 : RowKit.Below w3.heap.size w3 w5 := h34.trans (hb5.mono h34.size)
      have HS5 := Lib.hid ((HS4.out.below hb5).more hb5.size)
      clear hb5 HS4
      go_wp2_with fail
      go_loopw [15] (fun kv wr => ∃ k : Nat, kv = .int .i64 k ∧ k ≤ T.length ∧ RowKit.Below w5.heap.size w5 wr) (fun kv _ => T.length - (intOf kv).toNat)
      case atStart => exact ⟨0, rfl, by omega, RowKit.Below.refl _ _⟩
      case round =>
        obtain ⟨k, rfl, hk, hbr⟩ := hrel
        have hzr := hbr.size
        have hwr : RowKit.Below w.heap.size w wr := hw5.trans (hbr.mono hw5.size)
        have h3r : RowKit.Below w3.heap.size w3 wr := h35.trans (hbr.mono h35.size)
        by_cases hlk : k < T.length
        · obtain ⟨x, hx⟩ : ∃ x, T[k]? = some x := ⟨_, List.getElem?_eq_getElem hlk⟩
          obtain ⟨b3, o3, rfl, hb3, d0⟩ := boSl_at ((HS3.out.below h3r).more h3r.size) hx
          obtain ⟨b4, o4, rfl, hb4, d1⟩ := boSl_at ((HS5.out.below hbr).more hzr) hx
          have ra := run_at_bo2 b3 o3 T.length c3 k hlk
          have rb := run_at_bo2 b4 o4 T.length c4 k hlk
          have i3 : (k : Int) < (T.length : Int) := by omega
          clear hx
          cases x
          all_goals
            go_wp2_with fail
            go_quiet (fail)
            go_wp2_with fail
            exact ⟨⟨k + 1, by go_num, by omega, by (repeat (first | assumption | exact Below.refl _ _ | apply Below.drew | apply below_drewN | (refine Below.alloc ?_ (by first | exact Nat.le_refl _ | omega | (simp; done) | (simp; omega)) _)))⟩, by simp [intOf]; omega⟩
        · obtain ⟨w6, hw6e⟩ : ∃ w6 : World, w6 = wr := ⟨_, rfl⟩
          rw [← hw6e] at hwr h3r ⊢
          clear hw6e hbr hzr
          go_wp2_with fail
          refine (HON.out _ hwr).mono ?_
          rintro r w7 ⟨rfl, hb7⟩
          have hw7 : RowKit.Below w.heap.size w w7 := hwr.trans (hb7.mono hwr.size)
          have h37 : RowKit.Below w3.heap.size w3 w7 := h3r.trans (hb7.mono h3r.size)
          clear hb7
          go_wp2_with fail
          refine (HE0.out w7 (HG.out.below hw7 hlt)).mono ?_
          rintro r w8 ⟨rfl, hb8⟩
          have hw8 : RowKit.Below w.heap.size w w8 := hw7.trans (hb8.mono hw7.size)
          have h38 : RowKit.Below w3.heap.size w3 w8 := h37.trans (hb8.mono h37.size)
          clear hb8
          go_wp2_with fail
          refine (HFA.out _ hw8).mono ?_
          rintro r wa ⟨rfl, hba⟩
          have hwa : RowKit.Below w.heap.size w wa := hw8.trans (hba.mono hw8.size)
          have h3a : RowKit.Below w3.heap.size w3 wa := h38.trans (hba.mono h38.size)
          clear hba
          go_wp2_with fail
          refine (HFB.out _ hwa).mono ?_
          rintro r wb ⟨rfl, hbb⟩
          have hwb : RowKit.Below w.heap.size w wb := hwa.trans (hbb.mono hwa.size)
          have h3b : RowKit.Below w3.heap.size w3 wb := h3a.trans (hbb.mono h3a.size)
          clear hbb
          have hwc : RowKit.Below w.heap.size w (wb.alloc (.cells #[] 47)) := hwb.alloc hwb.size _
          have HO0 := Lib.hid (World.ownsRow_made (base := wb.heap.size) (e := 47) (size := 4) wb #[] 0 (Nat.le_refl _) (Nat.zero_le _) (by simp))
          have HBB : Hid (RowKit.Below wb.heap.size wb (wb.alloc (.cells #[] 47))) := by show RowKit.Below _ _ _; (repeat (first | assumption | exact Below.refl _ _ | apply Below.drew | apply below_drewN | (refine Below.alloc ?_ (by first | exact Nat.le_refl _ | omega | (simp; done) | (simp; omega)) _)))
          go_wp2_with (first
            | (at_builtin; refine wpList_append_own _ rfl (.tmp 104) (.tmp 105) 22 rfl wb.heap.size 47 j0 _ 4 48 Tryd.underlying22 hjj hy0 hy1 hy2 rfl (by omega) _ 0 [] rfl HO0.out ⟨ba, oa, none⟩ a.length c (flat a) rfl (flat_len a) (HF1.out _ hwc) (flat_one_cell _) (by unfold maxLen; omega) (by omega) (by simp) ?_; intro v1 wd hown1 hgrow1 _; have hbd : RowKit.Below wb.heap.size wb wd := HBB.out.grown hgrow1 (by simp) (fun q hq => (own_lt HO0.out hq).1); have hwd : RowKit.Below w.heap.size w wd := hwb.trans (hbd.mono hwb.size); rw [Nat.zero_add, List.nil_append] at hown1; have HO1 := Lib.hid hown1; obtain ⟨A1, d1, rfl, hd1, hm1, hs1⟩ := own_form_new hown1; clear hgrow1 hown1 hs1)
            | (at_builtin; refine wpList_append_own _ rfl (.tmp 106) (.tmp 107) 22 rfl wb.heap.size 47 j0 _ 4 48 Tryd.underlying22 hjj hy0 hy1 hy2 rfl (by omega) _ a.length (flat a) rfl HO1.out ⟨bb, ob, none⟩ b.length d (flat b) rfl (flat_len b) (HF2.out _ hwd) (flat_one_cell _) (by unfold maxLen; omega) (by omega) hbd.size ?_; intro v2 we hown2 hgrow2 _; have hbe : RowKit.Below wb.heap.size wb we := hbd.grown hgrow2 hbd.size (fun q hq => (own_lt HO1.out hq).1); have hwe : RowKit.Below w.heap.size w we := hwb.trans (hbe.mono hwb.size); rw [← flat_append, ← List.length_append] at hown2; obtain ⟨A2, d2, rfl, hd2, hm2, hs2, -⟩ := own_form_new hown2; have HS2 := Lib.hid hs2; clear hgrow2 hown2 hs2))
          refine (HATO.out we A2 d2 hwe hlab HS2.out).mono ?_
          rintro r wf ⟨rfl, hbf⟩
          have hwf : RowKit.Below w.heap.size w wf := hwe.trans (hbf.mono hwe.size)
          have h3e : RowKit.Below w3.heap.size w3 we := h3b.trans (hbe.mono h3b.size)
          have h3f : RowKit.Below w3.heap.size w3 wf := h3e.trans (hbf.mono h3e.size)
          clear hbf
          go_wp2_with fail
          refine (HAL.out _ hwf).mono ?_
          rintro r wy ⟨rfl, hby⟩
          have hwy : RowKit.Below w.heap.size w wy := hwf.trans (hby.mono hwf.size)
          clear hby
          go_wp2_with fail
          refine (HEk.out wy (HG.out.below hwy hlt)).mono ?_
          rintro r wz ⟨rfl, hbz⟩
          go_wp2_with fail
          go_ret
          exact ⟨rfl, hwy.trans (hbz.mono hwy.size)⟩
set_option maxRecDepth 100000 in
set_option maxHeartbeats 25600000 in
theorem tables_A3 (a b : List Nd) (A : Option Addr) (c : Nat) (B : Option Addr) (d : Nat) (ss : List (List UInt8)) (An : Option Addr) (cn : Nat) (w : World) (hg : ErrCell w)
    (hc : a.length ≤ c) (hcm : c ≤ 9223372036854775807) (hok : NdOk a) (hsl : NdSl w w.heap.size A a) (hd : b.length ≤ d) (hdm : d ≤ 9223372036854775807) (hokb : NdOk b) (hslb : NdSl w w.heap.size B b)
    (hss : StrSl w w.heap.size An ss) (hn : ss.length ≤ cn) (hcn : cn ≤ 9223372036854775807) (hk : frmErr a ss = 0) (hb : treeErr b = 0) (hx : atomsErr (a ++ b) ss = 0) :
    Calls Tryd.prog 4 #[.slice A a.length c, .slice B b.length d, .slice An ss.length cn] w fun r w' => r = .returned (.bool true) ∧ RowKit.Below w.heap.size w w' := by
  have ha := (frm_ok.1 hk).1
  have hlt := hg.lt
  have HG := Lib.hid hg
  have HSA := Lib.hid hsl
  have HSB := Lib.hid hslb
  have HF := Lib.hid (fun W (hW : RowKit.Below w.heap.size w W) => r4_FormulaFault a A c ss An cn W (by omega) hok ((hsl.below hW).more hW.size) ((hss.below hW).more hW.size) hn hcn)
  have HTB := Lib.hid (fun W (hW : RowKit.Below w.heap.size w W) => truth_Table a A c ss An cn W hc hcm hok ((hsl.below hW).more hW.size) ((hss.below hW).more hW.size) hn hcn)
  have HON := Lib.hid (fun W (hW : RowKit.Below w.heap.size w W) => truth_Ones a A c ss An cn W hc hcm hok ((hsl.below hW).more hW.size) ((hss.below hW).more hW.size) hn hcn)
  have HFA := Lib.hid (fun W (hW : RowKit.Below w.heap.size w W) => r2_Fault a A c W (by omega) hok ((hsl.below hW).more hW.size))
  have HFB := Lib.hid (fun W (hW : RowKit.Below w.heap.size w W) => r2_Fault b B d W (by omega) hokb ((hslb.below hW).more hW.size))
  have HATO := Lib.hid (fun W A' c' (hW : RowKit.Below w.heap.size w W) (hl : (a ++ b).length ≤ 400) (hs : NdSl W W.heap.size A' (a ++ b)) => r4_AtomsFault (a ++ b) A' c' ss An cn W (by omega) hs ((hss.below hW).more hW.size) hn hcn)
  have HTBL := Lib.hid (fun hf W (hW : RowKit.Below w.heap.size w W) => table_ref b ss hf B d An cn W hokb ((hslb.below hW).more hW.size) ((hss.below hW).more hW.size))
  have HALK := Lib.hid (fun W (hW : RowKit.Below w.heap.size w W) => truth_Alike a b A c B d ss An cn W hc hcm hok ((hsl.below hW).more hW.size) hd hdm hokb ((hslb.below hW).more hW.size) ((hss.below hW).more hW.size) hn hcn)
  have t0 := errV_zero
  have HT := Lib.hid (fun W (hW : RowKit.Below w.heap.size w W) => table_ref a ss hk A c An cn W hok ((hsl.below hW).more hW.size) ((hss.below hW).more hW.size))
  have h6 := (frm_use hk).2.2.2
  have hTL : (tabB (evL a) ss).length = 2 ^ ss.length := tabB_len _ _
  have h64 : (2 : Nat) ^ ss.length ≤ 64 := Nat.pow_le_pow_right (by omega) h6
  have HTP : (tableP a ss).1 = tabB (evL a) ss := by unfold tableP; rw [if_neg (by simp [hk])]
  have HOP : onesP a ss = onesL (tabB (evL a) ss) := by unfold onesP; rw [HTP]
  have HTA := Lib.hid (frm_ok.1 hk).1
  rw [hk] at HF HTB HON
  rw [HTP] at HTB
  rw [HOP, errV_zero] at HON
  obtain ⟨T, hT⟩ : ∃ T, tabB (evL a) ss = T := ⟨_, rfl⟩
  have HTD := Lib.hid hT
  rw [hT] at HT HTB HON hTL
  have hTl : T.length ≤ 64 := by omega
  obtain ⟨N, hN⟩ : ∃ N, onesL T = N := ⟨_, rfl⟩
  have HN := Lib.hid hN
  rw [hN] at HON
  have HE0 := Lib.hid (fun W (hW : ErrCell W) => same_Error 0 W hW)
  rw [errV_zero] at HE0
  have lb := (tree_len hb).1
  have la := (tree_len ha).1
  have neb : b ≠ [] := by intro h; have := (tree_len hb).2; rw [h] at this; simp at this
  have nea : a ≠ [] := by intro h; have := (tree_len ha).2; rw [h] at this; simp at this
  obtain ⟨ba, oa, rfl, hbal, -⟩ := HSA.out nea
  obtain ⟨bb, ob, rfl, hbbl, -⟩ := HSB.out neb
  clear nea neb
  have HTT := Lib.hid (fun W (hW : RowKit.Below w.heap.size w W) => HTBL.out (frm_ok.2 ⟨hb, (atoms_append.1 hx).2⟩) W hW)
  have HAE : alikeErr a b ss = atomsErr (a ++ b) ss := by unfold alikeErr; rw [if_neg (by simp [ha]), if_neg (by simp [hb])]
  have HAB : alikeB a b ss = (T == tabB (evL b) ss) := by unfold alikeB; rw [if_neg (by rw [HAE, hx]; simp), HTD.out]
  have HTL2 : Hid ((tabB (evL b) ss).length = T.length) := by show _ = _; rw [← HTD.out, tabB_len, tabB_len]
  have HAL := Lib.hid (fun W (hW : RowKit.Below w.heap.size w W) => HALK.out W hW)
  rw [HAB, HAE, hx, errV_zero] at HAL
  rw [hx] at HATO
  rw [ha] at HFA
  rw [hb] at HFB
  have hbs := bs_nodes0
  have HF1 := Lib.hid (fun W (hW : RowKit.Below w.heap.size w W) j u hu => NdSl.flat ((HSA.out.below hW).more hW.size) j u hu)
  have HF2 := Lib.hid (fun W (hW : RowKit.Below w.heap.size w W) j u hu => NdSl.flat ((HSB.out.below hW).more hW.size) j u hu)
  obtain ⟨j0, hjj, hy0, hy1, hy2⟩ := info_parts nd_info
  have hlab : a.length + b.length ≤ 400 := by omega
  simp only [List.length_append] at HATO
  clear HAE HAB hx HALK
  generalize tabB (evL b) ss = U at HTT HTL2 HAL
  clear hok hsl hss hg hk hokb hslb
  clear ha
  clear hb
  clear hTL h6 hT hN h64 HTP HOP
  go_enter Tryd.func4, Tryd.ntmps4
  go_wp2_with fail
  refine (law_tabled w).mono ?_
  rintro r w1 ⟨rfl, hw1⟩
  go_wp2_with fail
  refine (HF.out _ hw1).mono ?_
  rintro r w2 ⟨rfl, hb2⟩
  have hw2 : RowKit.Below w.heap.size w w2 := hw1.trans (hb2.mono hw1.size)
  clear hb2
  go_wp2_with fail
  refine (HT.out _ hw2).mono ?_
  rintro r w3 ⟨A3, c3, rfl, _, _, hs3, hb3⟩
  have hw3 : RowKit.Below w.heap.size w w3 := hw2.trans (hb3.mono hw2.size)
  have HS3 := Lib.hid hs3
  clear hb3 hs3
  go_wp2_with fail
  go_loop [10, 11] (fun nn kk => ∃ (j : Nat) (m : Nat), kk = .int .i64 j ∧ nn = .int .i64 m ∧ j ≤ T.length ∧ m ≤ j ∧ Hid (m = onesL (T.take j))) (fun _ kk => T.length - (intOf kk).toNat)
  case atStart => exact ⟨0, 0, rfl, rfl, by omega, by omega, rfl⟩
  case round =>
    obtain ⟨j, m, rfl, rfl, hj, hm, HM⟩ := hrel
    by_cases hlj : j < T.length
    · obtain ⟨x, hx⟩ : ∃ x, T[j]? = some x := ⟨_, List.getElem?_eq_getElem hlj⟩
      obtain ⟨b3, o3, rfl, hb3, d0⟩ := boSl_at HS3.out hx
      have HST := Lib.hid (ones_step hx)
      clear hx
      cases x
      · have HM2 : Hid (m = onesL (T.take (j + 1))) := by show _ = _; rw [HST.out, HM.out]; rfl
        go_wp2_with fail
        exact ⟨⟨j + 1, m, by go_num, rfl, by omega, by omega, HM2⟩, by simp [intOf]; omega⟩
      · have HM2 : Hid (m + 1 = onesL (T.take (j + 1))) := by show _ = _; rw [HST.out, HM.out]; rfl
        go_wp2_with fail
        exact ⟨⟨j + 1, m + 1, by go_num, by go_num, by omega, by omega, HM2⟩, by simp [intOf]; omega⟩
    · obtain rfl : m = N := by
        have := HM.out
        rw [List.take_of_length_le (by omega)] at this
        rw [this, HN.out]
      clear HM
      go_wp2_with fail
      refine (HTB.out _ hw3).mono ?_
      rintro r w4 ⟨A4, c4, rfl, _, _, hs4, hb4⟩
      have hw4 : RowKit.Below w.heap.size w w4 := hw3.trans (hb4.mono hw3.size)
      have h34 : RowKit.Below w3.heap.size w3 w4 := hb4
      have HS4 := Lib.hid hs4
      clear hb4 hs4
      go_wp2_with fail
      refine (HE0.out w4 (HG.out.below hw4 hlt)).mono ?_
      rintro r w5 ⟨rfl, hb5⟩
      have hw5 : RowKit.Below w.heap.size w w5 := hw4.trans (hb5.mono hw4.size)
      have h35 : RowKit.Below w3.heap.size w3 w5 := h34.trans (hb5.mono h34.size)
      have HS5 := Lib.hid ((HS4.out.below hb5).more hb5.size)
      clear hb5 HS4
      go_wp2_with fail
      go_loopw [15] (fun kv wr => ∃ k : Nat, kv = .int .i64 k ∧ k ≤ T.length ∧ RowKit.Below w5.heap.size w5 wr) (fun kv _ => T.length - (intOf kv).toNat)
      case atStart => exact ⟨0, rfl, by omega, RowKit.Below.refl _ _⟩
      case round =>
        obtain ⟨k, rfl, hk, hbr⟩ := hrel
        have hzr := hbr.size
        have hwr : RowKit.Below w.heap.size w wr := hw5.trans (hbr.mono hw5.size)
        have h3r : RowKit.Below w3.heap.size w3 wr := h35.trans (hbr.mono h35.size)
        by_cases hlk : k < T.length
        · obtain ⟨x, hx⟩ : ∃ x, T[k]? = some x := ⟨_, List.getElem?_eq_getElem hlk⟩
          obtain ⟨b3, o3, rfl, hb3, d0⟩ := boSl_at ((HS3.out.below h3r).more h3r.size) hx
          obtain ⟨b4, o4, rfl, hb4, d1⟩ := boSl_at ((HS5.out.below hbr).more hzr) hx
          have ra := run_at_bo2 b3 o3 T.length c3 k hlk
          have rb := run_at_bo2 b4 o4 T.length c4 k hlk
          have i3 : (k : Int) < (T.length : Int) := by omega
          clear hx
          cases x
          all_goals
            go_wp2_with fail
            go_quiet (fail)
            go_wp2_with fail
            exact ⟨⟨k + 1, by go_num, by omega, by (repeat (first | assumption | exact Below.refl _ _ | apply Below.drew | apply below_drewN | (refine Below.alloc ?_ (by first | exact Nat.le_refl _ | omega | (simp; done) | (simp; omega)) _)))⟩, by simp [intOf]; omega⟩
        · obtain ⟨w6, hw6e⟩ : ∃ w6 : World, w6 = wr := ⟨_, rfl⟩
          rw [← hw6e] at hwr h3r ⊢
          clear hw6e hbr hzr
          go_wp2_with fail
          refine (HON.out _ hwr).mono ?_
          rintro r w7 ⟨rfl, hb7⟩
          have hw7 : RowKit.Below w.heap.size w w7 := hwr.trans (hb7.mono hwr.size)
          have h37 : RowKit.Below w3.heap.size w3 w7 := h3r.trans (hb7.mono h3r.size)
          clear hb7
          go_wp2_with fail
          refine (HE0.out w7 (HG.out.below hw7 hlt)).mono ?_
          rintro r w8 ⟨rfl, hb8⟩
          have hw8 : RowKit.Below w.heap.size w w8 := hw7.trans (hb8.mono hw7.size)
          have h38 : RowKit.Below w3.heap.size w3 w8 := h37.trans (hb8.mono h37.size)
          clear hb8
          go_wp2_with fail
          refine (HFA.out _ hw8).mono ?_
          rintro r wa ⟨rfl, hba⟩
          have hwa : RowKit.Below w.heap.size w wa := hw8.trans (hba.mono hw8.size)
          have h3a : RowKit.Below w3.heap.size w3 wa := h38.trans (hba.mono h38.size)
          clear hba
          go_wp2_with fail
          refine (HFB.out _ hwa).mono ?_
          rintro r wb ⟨rfl, hbb⟩
          have hwb : RowKit.Below w.heap.size w wb := hwa.trans (hbb.mono hwa.size)
          have h3b : RowKit.Below w3.heap.size w3 wb := h3a.trans (hbb.mono h3a.size)
          clear hbb
          have hwc : RowKit.Below w.heap.size w (wb.alloc (.cells #[] 47)) := hwb.alloc hwb.size _
          have HO0 := Lib.hid (World.ownsRow_made (base := wb.heap.size) (e := 47) (size := 4) wb #[] 0 (Nat.le_refl _) (Nat.zero_le _) (by simp))
          have HBB : Hid (RowKit.Below wb.heap.size wb (wb.alloc (.cells #[] 47))) := by show RowKit.Below _ _ _; (repeat (first | assumption | exact Below.refl _ _ | apply Below.drew | apply below_drewN | (refine Below.alloc ?_ (by first | exact Nat.le_refl _ | omega | (simp; done) | (simp; omega)) _)))
          go_wp2_with (first
            | (at_builtin; refine wpList_append_own _ rfl (.tmp 104) (.tmp 105) 22 rfl wb.heap.size 47 j0 _ 4 48 Tryd.underlying22 hjj hy0 hy1 hy2 rfl (by omega) _ 0 [] rfl HO0.out ⟨ba, oa, none⟩ a.length c (flat a) rfl (flat_len a) (HF1.out _ hwc) (flat_one_cell _) (by unfold maxLen; omega) (by omega) (by simp) ?_; intro v1 wd hown1 hgrow1 _; have hbd : RowKit.Below wb.heap.size wb wd := HBB.out.grown hgrow1 (by simp) (fun q hq => (own_lt HO0.out hq).1); have hwd : RowKit.Below w.heap.size w wd := hwb.trans (hbd.mono hwb.size); rw [Nat.zero_add, List.nil_append] at hown1; have HO1 := Lib.hid hown1; obtain ⟨A1, d1, rfl, hd1, hm1, hs1⟩ := own_form_new hown1; clear hgrow1 hown1 hs1)
            | (at_builtin; refine wpList_append_own _ rfl (.tmp 106) (.tmp 107) 22 rfl wb.heap.size 47 j0 _ 4 48 Tryd.underlying22 hjj hy0 hy1 hy2 rfl (by omega) _ a.length (flat a) rfl HO1.out ⟨bb, ob, none⟩ b.length d (flat b) rfl (flat_len b) (HF2.out _ hwd) (flat_one_cell _) (by unfold maxLen; omega) (by omega) hbd.size ?_; intro v2 we hown2 hgrow2 _; have hbe : RowKit.Below wb.heap.size wb we := hbd.grown hgrow2 hbd.size (fun q hq => (own_lt HO1.out hq).1); have hwe : RowKit.Below w.heap.size w we := hwb.trans (hbe.mono hwb.size); rw [← flat_append, ← List.length_append] at hown2; obtain ⟨A2, d2, rfl, hd2, hm2, hs2, -⟩ := own_form_new hown2; have HS2 := Lib.hid hs2; clear hgrow2 hown2 hs2))
          refine (HATO.out we A2 d2 hwe hlab HS2.out).mono ?_
          rintro r wf ⟨rfl, hbf⟩
          have hwf : RowKit.Below w.heap.size w wf := hwe.trans (hbf.mono hwe.size)
          have h3e : RowKit.Below w3.heap.size w3 we := h3b.trans (hbe.mono h3b.size)
          have h3f : RowKit.Below w3.heap.size w3 wf := h3e.trans (hbf.mono h3e.size)
          clear hbf
          go_wp2_with fail
          refine (HTT.out _ hwf).mono ?_
          rintro r wg ⟨A8, c8, rfl, _, _, hs8, hbg⟩
          have hwg : RowKit.Below w.heap.size w wg := hwf.trans (hbg.mono hwf.size)
          have HS8 := Lib.hid hs8
          have h3w : RowKit.Below w3.heap.size w3 wg := h3f.trans (hbg.mono h3f.size)
          clear hbg hs8
          go_wp2_with fail
          go_loopw [18, 20] (fun iv kv wr => ∃ k : Nat, kv = .int .i64 k ∧ k ≤ T.length ∧ (∃ q : Bool, iv = .bool q ∧ Hid (q = (T.take k == U.take k))) ∧ RowKit.Below wg.heap.size wg wr) (fun _ kv => fun _ => T.length - (intOf kv).toNat)
          case atStart => exact ⟨0, rfl, by omega, ⟨true, rfl, rfl⟩, RowKit.Below.refl _ _⟩
          case round =>
            obtain ⟨k, rfl, hk, ⟨q, rfl, HQ⟩, hbr⟩ := hrel
            have hzr := hbr.size
            have hwr : RowKit.Below w.heap.size w wr := hwg.trans (hbr.mono hwg.size)
            have h3r : RowKit.Below w3.heap.size w3 wr := h3w.trans (hbr.mono h3w.size)
            by_cases hlk : k < T.length
            · obtain ⟨x, hx⟩ : ∃ x, T[k]? = some x := ⟨_, List.getElem?_eq_getElem hlk⟩
              obtain ⟨y, hy⟩ : ∃ y, U[k]? = some y := ⟨_, List.getElem?_eq_getElem (by rw [HTL2.out]; exact hlk)⟩
              obtain ⟨b3, o3, rfl, hb3, d0⟩ := boSl_at ((HS3.out.below h3r).more h3r.size) hx
              obtain ⟨b4, o4, rfl, hb4, d1⟩ := boSl_at ((HS8.out.below hbr).more hzr) hy
              rw [HTL2.out]
              have ra := run_at_bo2 b3 o3 T.length c3 k hlk
              have rb := run_at_bo2 b4 o4 T.length c8 k hlk
              have i3 : (k : Int) < (T.length : Int) := by omega
              have HX := Lib.hid hx
              have HY := Lib.hid hy
              have HST : Hid ((T.take (k + 1) == U.take (k + 1)) = ((T.take k == U.take k) && (x == y))) := by
                show _ = _
                rw [List.take_add_one, List.take_add_one, hx, hy, Bool.eq_iff_iff]
                simp only [Option.toList, beq_iff_eq, Bool.and_eq_true]
                constructor
                · intro h
                  have h2 := List.append_inj h (by rw [List.length_take, List.length_take, HTL2.out])
                  exact ⟨h2.1, by simpa using h2.2⟩
                · rintro ⟨h1, h2⟩; rw [h1, h2]
              clear hx hy
              cases x <;> cases y
              · have HQ2 : Hid (q = (T.take (k + 1) == U.take (k + 1))) := by show _ = _; rw [HST.out, HQ.out]; simp
                go_wp2_with fail
                go_quiet (fail)
                go_wp2_with fail
                exact ⟨⟨k + 1, by go_num, by omega, ⟨q, rfl, HQ2⟩, by (repeat (first | assumption | exact Below.refl _ _ | apply Below.drew | apply below_drewN | (refine Below.alloc ?_ (by first | exact Nat.le_refl _ | omega | (simp; done) | (simp; omega)) _)))⟩, by simp [intOf]; omega⟩
              · have HQ2 : Hid (false = (T.take (k + 1) == U.take (k + 1))) := by show _ = _; rw [HST.out]; simp
                go_wp2_with fail
                go_quiet (fail)
                go_wp2_with fail
                exact ⟨⟨k + 1, by go_num, by omega, ⟨false, rfl, HQ2⟩, by (repeat (first | assumption | exact Below.refl _ _ | apply Below.drew | apply below_drewN | (refine Below.alloc ?_ (by first | exact Nat.le_refl _ | omega | (simp; done) | (simp; omega)) _)))⟩, by simp [intOf]; omega⟩
              · have HQ2 : Hid (false = (T.take (k + 1) == U.take (k + 1))) := by show _ = _; rw [HST.out]; simp
                go_wp2_with fail
                go_quiet (fail)
                go_wp2_with fail
                exact ⟨⟨k + 1, by go_num, by omega, ⟨false, rfl, HQ2⟩, by (repeat (first | assumption | exact Below.refl _ _ | apply Below.drew | apply below_drewN | (refine Below.alloc ?_ (by first | exact Nat.le_refl _ | omega | (simp; done) | (simp; omega)) _)))⟩, by simp [intOf]; omega⟩
              · have HQ2 : Hid (q = (T.take (k + 1) == U.take (k + 1))) := by show _ = _; rw [HST.out, HQ.out]; simp
                go_wp2_with fail
                go_quiet (fail)
                go_wp2_with fail
                exact ⟨⟨k + 1, by go_num, by omega, ⟨q, rfl, HQ2⟩, by (repeat (first | assumption | exact Below.refl _ _ | apply Below.drew | apply below_drewN | (refine Below.alloc ?_ (by first | exact Nat.le_refl _ | omega | (simp; done) | (simp; omega)) _)))⟩, by simp [intOf]; omega⟩
            · have HQ2 : Hid ((T == U) = q) := by
                show _ = _
                have h := HQ.out
                rw [List.take_of_length_le (by omega), List.take_of_length_le (by rw [HTL2.out]; omega)] at h
                exact h.symm
              obtain ⟨w9, hw9e⟩ : ∃ w9 : World, w9 = wr := ⟨_, rfl⟩
              rw [← hw9e] at hwr ⊢
              rw [HQ2.out] at HAL
              clear hw9e hbr hzr h3r HQ HQ2
              have hqq : (q == q) = true := by simp
              go_wp2_with fail
              refine (HAL.out _ hwr).mono ?_
              rintro r wy ⟨rfl, hby⟩
              have hwy : RowKit.Below w.heap.size w wy := hwr.trans (hby.mono hwr.size)
              clear hby
              go_wp2_with fail
              refine (HE0.out wy (HG.out.below hwy hlt)).mono ?_
              rintro r wz ⟨rfl, hbz⟩
              cases q
              all_goals
                go_wp2_with fail
                go_ret
                exact ⟨rfl, hwy.trans (hbz.mono hwy.size)⟩
set_option maxRecDepth 100000 in
set_option maxHeartbeats 25600000 in
theorem tables_B1 (a b : List Nd) (A : Option Addr) (c : Nat) (B : Option Addr) (d : Nat) (ss : List (List UInt8)) (An : Option Addr) (cn : Nat) (w : World) (hg : ErrCell w)
    (hc : a.length ≤ c) (hcm : c ≤ 9223372036854775807) (hok : NdOk a) (hsl : NdSl w w.heap.size A a) (hd : b.length ≤ d) (hdm : d ≤ 9223372036854775807) (hokb : NdOk b) (hslb : NdSl w w.heap.size B b)
    (hss : StrSl w w.heap.size An ss) (hn : ss.length ≤ cn) (hcn : cn ≤ 9223372036854775807) (hk : ¬ frmErr a ss = 0) (hx : ¬ treeErr a = 0) :
    Calls Tryd.prog 4 #[.slice A a.length c, .slice B b.length d, .slice An ss.length cn] w fun r w' => r = .returned (.bool true) ∧ RowKit.Below w.heap.size w w' := by
  skip
  have hlt := hg.lt
  have HG := Lib.hid hg
  have HSA := Lib.hid hsl
  have HSB := Lib.hid hslb
  have HF := Lib.hid (fun W (hW : RowKit.Below w.heap.size w W) => r4_FormulaFault a A c ss An cn W (by omega) hok ((hsl.below hW).more hW.size) ((hss.below hW).more hW.size) hn hcn)
  have HTB := Lib.hid (fun W (hW : RowKit.Below w.heap.size w W) => truth_Table a A c ss An cn W hc hcm hok ((hsl.below hW).more hW.size) ((hss.below hW).more hW.size) hn hcn)
  have HON := Lib.hid (fun W (hW : RowKit.Below w.heap.size w W) => truth_Ones a A c ss An cn W hc hcm hok ((hsl.below hW).more hW.size) ((hss.below hW).more hW.size) hn hcn)
  have HFA := Lib.hid (fun W (hW : RowKit.Below w.heap.size w W) => r2_Fault a A c W (by omega) hok ((hsl.below hW).more hW.size))
  have HFB := Lib.hid (fun W (hW : RowKit.Below w.heap.size w W) => r2_Fault b B d W (by omega) hokb ((hslb.below hW).more hW.size))
  have HATO := Lib.hid (fun W A' c' (hW : RowKit.Below w.heap.size w W) (hl : (a ++ b).length ≤ 400) (hs : NdSl W W.heap.size A' (a ++ b)) => r4_AtomsFault (a ++ b) A' c' ss An cn W (by omega) hs ((hss.below hW).more hW.size) hn hcn)
  have HTBL := Lib.hid (fun hf W (hW : RowKit.Below w.heap.size w W) => table_ref b ss hf B d An cn W hokb ((hslb.below hW).more hW.size) ((hss.below hW).more hW.size))
  have HALK := Lib.hid (fun W (hW : RowKit.Below w.heap.size w W) => truth_Alike a b A c B d ss An cn W hc hcm hok ((hsl.below hW).more hW.size) hd hdm hokb ((hslb.below hW).more hW.size) ((hss.below hW).more hW.size) hn hcn)
  have t0 := errV_zero
  have HTP : (tableP a ss).1 = [] := by unfold tableP; rw [if_pos hk]
  have HOP : onesP a ss = 0 := by unfold onesP; rw [HTP]; rfl
  have HNK := Lib.hid hk
  have tk0 : (frmErr a ss == 0) = false := by simp [hk]
  rw [HTP] at HTB
  rw [HOP] at HON
  obtain ⟨K, hK⟩ : ∃ K, frmErr a ss = K := ⟨_, rfl⟩
  rw [hK] at HF HTB HON tk0
  have HEK := Lib.hid (fun W (hW : ErrCell W) => same_Error K W hW)
  have HAE : alikeErr a b ss = treeErr a := by unfold alikeErr; rw [if_pos hx]
  have HAL := Lib.hid (fun W (hW : RowKit.Below w.heap.size w W) => HALK.out W hW)
  rw [show alikeB a b ss = false from by unfold alikeB; rw [if_pos (by rw [HAE]; exact hx)], HAE] at HAL
  have tk : (treeErr a == 0) = false := by simp [hx]
  clear HALK HAE
  generalize treeErr a = k at HFA HAL tk
  have HEk := Lib.hid (fun W (hW : ErrCell W) => same_Error k W hW)
  clear hx
  clear hok hsl hss hg hk hokb hslb
  clear hK HTP HOP
  go_enter Tryd.func4, Tryd.ntmps4
  go_wp2_with fail
  refine (law_tabled w).mono ?_
  rintro r w1 ⟨rfl, hw1⟩
  go_wp2_with fail
  refine (HF.out _ hw1).mono ?_
  rintro r w2 ⟨rfl, hb2⟩
  have hw2 : RowKit.Below w.heap.size w w2 := hw1.trans (hb2.mono hw1.size)
  clear hb2
  go_wp2_with fail
  refine (HTB.out _ hw2).mono ?_
  rintro r w4 ⟨A4, c4, rfl, _, _, hs4, hb4⟩
  have hw4 : RowKit.Below w.heap.size w w4 := hw2.trans (hb4.mono hw2.size)
  clear hb4 hs4
  go_wp2_with fail
  refine (HEK.out w4 (HG.out.below hw4 hlt)).mono ?_
  rintro r w5 ⟨rfl, hb5⟩
  have hw5 : RowKit.Below w.heap.size w w5 := hw4.trans (hb5.mono hw4.size)
  clear hb5
  go_wp2_with fail
  go_loop [15] (fun kk => kk = .int .i64 0) (fun _ => 0)
  case atStart => exact rfl
  case round =>
    obtain rfl := hrel
    go_wp2_with fail
    refine (HON.out _ hw5).mono ?_
    rintro r w7 ⟨rfl, hb7⟩
    have hw7 : RowKit.Below w.heap.size w w7 := hw5.trans (hb7.mono hw5.size)
    clear hb7
    go_wp2_with fail
    refine (HEK.out w7 (HG.out.below hw7 hlt)).mono ?_
    rintro r w8 ⟨rfl, hb8⟩
    have hw8 : RowKit.Below w.heap.size w w8 := hw7.trans (hb8.mono hw7.size)
    clear hb8
    go_wp2_with fail
    refine (HFA.out _ hw8).mono ?_
    rintro r wa ⟨rfl, hba⟩
    have hwa : RowKit.Below w.heap.size w wa := hw8.trans (hba.mono hw8.size)
    skip
    clear hba
    go_wp2_with fail
    refine (HAL.out _ hwa).mono ?_
    rintro r wy ⟨rfl, hby⟩
    have hwy : RowKit.Below w.heap.size w wy := hwa.trans (hby.mono hwa.size)
    clear hby
    go_wp2_with fail
    refine (HEk.out wy (HG.out.below hwy hlt)).mono ?_
    rintro r wz ⟨rfl, hbz⟩
    go_wp2_with fail
    go_ret
    exact ⟨rfl, hwy.trans (hbz.mono hwy.size)⟩
set_option maxRecDepth 100000 in
set_option maxHeartbeats 25600000 in
theorem tables_B2 (a b : List Nd) (A : Option Addr) (c : Nat) (B : Option Addr) (d : Nat) (ss : List (List UInt8)) (An : Option Addr) (cn : Nat) (w : World) (hg : ErrCell w)
    (hc : a.length ≤ c) (hcm : c ≤ 9223372036854775807) (hok : NdOk a) (hsl : NdSl w w.heap.size A a) (hd : b.length ≤ d) (hdm : d ≤ 9223372036854775807) (hokb : NdOk b) (hslb : NdSl w w.heap.size B b)
    (hss : StrSl w w.heap.size An ss) (hn : ss.length ≤ cn) (hcn : cn ≤ 9223372036854775807) (hk : ¬ frmErr a ss = 0) (ha : treeErr a = 0) (hx : ¬ treeErr b = 0) :
    Calls Tryd.prog 4 #[.slice A a.length c, .slice B b.length d, .slice An ss.length cn] w fun r w' => r = .returned (.bool true) ∧ RowKit.Below w.heap.size w w' := by
  skip
  have hlt := hg.lt
  have HG := Lib.hid hg
  have HSA := Lib.hid hsl
  have HSB := Lib.hid hslb
  have HF := Lib.hid (fun W (hW : RowKit.Below w.heap.size w W) => r4_FormulaFault a A c ss An cn W (by omega) hok ((hsl.below hW).more hW.size) ((hss.below hW).more hW.size) hn hcn)
  have HTB := Lib.hid (fun W (hW : RowKit.Below w.heap.size w W) => truth_Table a A c ss An cn W hc hcm hok ((hsl.below hW).more hW.size) ((hss.below hW).more hW.size) hn hcn)
  have HON := Lib.hid (fun W (hW : RowKit.Below w.heap.size w W) => truth_Ones a A c ss An cn W hc hcm hok ((hsl.below hW).more hW.size) ((hss.below hW).more hW.size) hn hcn)
  have HFA := Lib.hid (fun W (hW : RowKit.Below w.heap.size w W) => r2_Fault a A c W (by omega) hok ((hsl.below hW).more hW.size))
  have HFB := Lib.hid (fun W (hW : RowKit.Below w.heap.size w W) => r2_Fault b B d W (by omega) hokb ((hslb.below hW).more hW.size))
  have HATO := Lib.hid (fun W A' c' (hW : RowKit.Below w.heap.size w W) (hl : (a ++ b).length ≤ 400) (hs : NdSl W W.heap.size A' (a ++ b)) => r4_AtomsFault (a ++ b) A' c' ss An cn W (by omega) hs ((hss.below hW).more hW.size) hn hcn)
  have HTBL := Lib.hid (fun hf W (hW : RowKit.Below w.heap.size w W) => table_ref b ss hf B d An cn W hokb ((hslb.below hW).more hW.size) ((hss.below hW).more hW.size))
  have HALK := Lib.hid (fun W (hW : RowKit.Below w.heap.size w W) => truth_Alike a b A c B d ss An cn W hc hcm hok ((hsl.below hW).more hW.size) hd hdm hokb ((hslb.below hW).more hW.size) ((hss.below hW).more hW.size) hn hcn)
  have t0 := errV_zero
  have HTP : (tableP a ss).1 = [] := by unfold tableP; rw [if_pos hk]
  have HOP : onesP a ss = 0 := by unfold onesP; rw [HTP]; rfl
  have HNK := Lib.hid hk
  have tk0 : (frmErr a ss == 0) = false := by simp [hk]
  rw [HTP] at HTB
  rw [HOP] at HON
  obtain ⟨K, hK⟩ : ∃ K, frmErr a ss = K := ⟨_, rfl⟩
  rw [hK] at HF HTB HON tk0
  have HEK := Lib.hid (fun W (hW : ErrCell W) => same_Error K W hW)
  have HAE : alikeErr a b ss = treeErr b := by unfold alikeErr; rw [if_neg (by simp [ha]), if_pos hx]
  have HAL := Lib.hid (fun W (hW : RowKit.Below w.heap.size w W) => HALK.out W hW)
  rw [show alikeB a b ss = false from by unfold alikeB; rw [if_pos (by rw [HAE]; exact hx)], HAE] at HAL
  have tk : (treeErr b == 0) = false := by simp [hx]
  clear HALK HAE
  rw [ha] at HFA
  generalize treeErr b = k at HFB HAL tk
  have HEk := Lib.hid (fun W (hW : ErrCell W) => same_Error k W hW)
  clear hx
  clear hok hsl hss hg hk hokb hslb
  clear ha
  clear hK HTP HOP
  go_enter Tryd.func4, Tryd.ntmps4
  go_wp2_with fail
  refine (law_tabled w).mono ?_
  rintro r w1 ⟨rfl, hw1⟩
  go_wp2_with fail
  refine (HF.out _ hw1).mono ?_
  rintro r w2 ⟨rfl, hb2⟩
  have hw2 : RowKit.Below w.heap.size w w2 := hw1.trans (hb2.mono hw1.size)
  clear hb2
  go_wp2_with fail
  refine (HTB.out _ hw2).mono ?_
  rintro r w4 ⟨A4, c4, rfl, _, _, hs4, hb4⟩
  have hw4 : RowKit.Below w.heap.size w w4 := hw2.trans (hb4.mono hw2.size)
  clear hb4 hs4
  go_wp2_with fail
  refine (HEK.out w4 (HG.out.below hw4 hlt)).mono ?_
  rintro r w5 ⟨rfl, hb5⟩
  have hw5 : RowKit.Below w.heap.size w w5 := hw4.trans (hb5.mono hw4.size)
  clear hb5
  go_wp2_with fail
  go_loop [15] (fun kk => kk = .int .i64 0) (fun _ => 0)
  case atStart => exact rfl
  case round =>
    obtain rfl := hrel
    go_wp2_with fail
    refine (HON.out _ hw5).mono ?_
    rintro r w7 ⟨rfl, hb7⟩
    have hw7 : RowKit.Below w.heap.size w w7 := hw5.trans (hb7.mono hw5.size)
    clear hb7
    go_wp2_with fail
    refine (HEK.out w7 (HG.out.below hw7 hlt)).mono ?_
    rintro r w8 ⟨rfl, hb8⟩
    have hw8 : RowKit.Below w.heap.size w w8 := hw7.trans (hb8.mono hw7.size)
    clear hb8
    go_wp2_with fail
    refine (HFA.out _ hw8).mono ?_
    rintro r wa ⟨rfl, hba⟩
    have hwa : RowKit.Below w.heap.size w wa := hw8.trans (hba.mono hw8.size)
    skip
    clear hba
    go_wp2_with fail
    refine (HFB.out _ hwa).mono ?_
    rintro r wb ⟨rfl, hbb⟩
    have hwb : RowKit.Below w.heap.size w wb := hwa.trans (hbb.mono hwa.size)
    skip
    clear hbb
    go_wp2_with fail
    refine (HAL.out _ hwb).mono ?_
    rintro r wy ⟨rfl, hby⟩
    have hwy : RowKit.Below w.heap.size w wy := hwb.trans (hby.mono hwb.size)
    clear hby
    go_wp2_with fail
    refine (HEk.out wy (HG.out.below hwy hlt)).mono ?_
    rintro r wz ⟨rfl, hbz⟩
    go_wp2_with fail
    go_ret
    exact ⟨rfl, hwy.trans (hbz.mono hwy.size)⟩
set_option maxRecDepth 100000 in
set_option maxHeartbeats 25600000 in
theorem tables_B3 (a b : List Nd) (A : Option Addr) (c : Nat) (B : Option Addr) (d : Nat) (ss : List (List UInt8)) (An : Option Addr) (cn : Nat) (w : World) (hg : ErrCell w)
    (hc : a.length ≤ c) (hcm : c ≤ 9223372036854775807) (hok : NdOk a) (hsl : NdSl w w.heap.size A a) (hd : b.length ≤ d) (hdm : d ≤ 9223372036854775807) (hokb : NdOk b) (hslb : NdSl w w.heap.size B b)
    (hss : StrSl w w.heap.size An ss) (hn : ss.length ≤ cn) (hcn : cn ≤ 9223372036854775807) (hk : ¬ frmErr a ss = 0) (ha : treeErr a = 0) (hb : treeErr b = 0) :
    Calls Tryd.prog 4 #[.slice A a.length c, .slice B b.length d, .slice An ss.length cn] w fun r w' => r = .returned (.bool true) ∧ RowKit.Below w.heap.size w w' := by
  have hx : ¬ atomsErr (a ++ b) ss = 0 := fun h => hk (frm_ok.2 ⟨ha, (atoms_append.1 h).1⟩)
  have hlt := hg.lt
  have HG := Lib.hid hg
  have HSA := Lib.hid hsl
  have HSB := Lib.hid hslb
  have HF := Lib.hid (fun W (hW : RowKit.Below w.heap.size w W) => r4_FormulaFault a A c ss An cn W (by omega) hok ((hsl.below hW).more hW.size) ((hss.below hW).more hW.size) hn hcn)
  have HTB := Lib.hid (fun W (hW : RowKit.Below w.heap.size w W) => truth_Table a A c ss An cn W hc hcm hok ((hsl.below hW).more hW.size) ((hss.below hW).more hW.size) hn hcn)
  have HON := Lib.hid (fun W (hW : RowKit.Below w.heap.size w W) => truth_Ones a A c ss An cn W hc hcm hok ((hsl.below hW).more hW.size) ((hss.below hW).more hW.size) hn hcn)
  have HFA := Lib.hid (fun W (hW : RowKit.Below w.heap.size w W) => r2_Fault a A c W (by omega) hok ((hsl.below hW).more hW.size))
  have HFB := Lib.hid (fun W (hW : RowKit.Below w.heap.size w W) => r2_Fault b B d W (by omega) hokb ((hslb.below hW).more hW.size))
  have HATO := Lib.hid (fun W A' c' (hW : RowKit.Below w.heap.size w W) (hl : (a ++ b).length ≤ 400) (hs : NdSl W W.heap.size A' (a ++ b)) => r4_AtomsFault (a ++ b) A' c' ss An cn W (by omega) hs ((hss.below hW).more hW.size) hn hcn)
  have HTBL := Lib.hid (fun hf W (hW : RowKit.Below w.heap.size w W) => table_ref b ss hf B d An cn W hokb ((hslb.below hW).more hW.size) ((hss.below hW).more hW.size))
  have HALK := Lib.hid (fun W (hW : RowKit.Below w.heap.size w W) => truth_Alike a b A c B d ss An cn W hc hcm hok ((hsl.below hW).more hW.size) hd hdm hokb ((hslb.below hW).more hW.size) ((hss.below hW).more hW.size) hn hcn)
  have t0 := errV_zero
  have HTP : (tableP a ss).1 = [] := by unfold tableP; rw [if_pos hk]
  have HOP : onesP a ss = 0 := by unfold onesP; rw [HTP]; rfl
  have HNK := Lib.hid hk
  have tk0 : (frmErr a ss == 0) = false := by simp [hk]
  rw [HTP] at HTB
  rw [HOP] at HON
  obtain ⟨K, hK⟩ : ∃ K, frmErr a ss = K := ⟨_, rfl⟩
  rw [hK] at HF HTB HON tk0
  have HEK := Lib.hid (fun W (hW : ErrCell W) => same_Error K W hW)
  have lb := (tree_len hb).1
  have la := (tree_len ha).1
  have neb : b ≠ [] := by intro h; have := (tree_len hb).2; rw [h] at this; simp at this
  have nea : a ≠ [] := by intro h; have := (tree_len ha).2; rw [h] at this; simp at this
  obtain ⟨ba, oa, rfl, hbal, -⟩ := HSA.out nea
  obtain ⟨bb, ob, rfl, hbbl, -⟩ := HSB.out neb
  clear nea neb
  have HAE : alikeErr a b ss = atomsErr (a ++ b) ss := by unfold alikeErr; rw [if_neg (by simp [ha]), if_neg (by simp [hb])]
  have HAL := Lib.hid (fun W (hW : RowKit.Below w.heap.size w W) => HALK.out W hW)
  rw [show alikeB a b ss = false from by unfold alikeB; rw [if_pos (by rw [HAE]; exact hx)], HAE] at HAL
  have tk : (atomsErr (a ++ b) ss == 0) = false := by simp [hx]
  clear HALK HAE
  rw [ha] at HFA
  rw [hb] at HFB
  have hbs := bs_nodes0
  have HF1 := Lib.hid (fun W (hW : RowKit.Below w.heap.size w W) j u hu => NdSl.flat ((HSA.out.below hW).more hW.size) j u hu)
  have HF2 := Lib.hid (fun W (hW : RowKit.Below w.heap.size w W) j u hu => NdSl.flat ((HSB.out.below hW).more hW.size) j u hu)
  obtain ⟨j0, hjj, hy0, hy1, hy2⟩ := info_parts nd_info
  have hlab : a.length + b.length ≤ 400 := by omega
  simp only [List.length_append] at HATO
  generalize atomsErr (a ++ b) ss = k at HATO HAL tk
  have HEk := Lib.hid (fun W (hW : ErrCell W) => same_Error k W hW)
  clear hx
  clear hok hsl hss hg hk hokb hslb
  clear ha
  clear hb
  clear hK HTP HOP
  go_enter Tryd.func4, Tryd.ntmps4
  go_wp2_with fail
  refine (law_tabled w).mono ?_
  rintro r w1 ⟨rfl, hw1⟩
  go_wp2_with fail
  refine (HF.out _ hw1).mono ?_
  rintro r w2 ⟨rfl, hb2⟩
  have hw2 : RowKit.Below w.heap.size w w2 := hw1.trans (hb2.mono hw1.size)
  clear hb2
  go_wp2_with fail
  refine (HTB.out _ hw2).mono ?_
  rintro r w4 ⟨A4, c4, rfl, _, _, hs4, hb4⟩
  have hw4 : RowKit.Below w.heap.size w w4 := hw2.trans (hb4.mono hw2.size)
  clear hb4 hs4
  go_wp2_with fail
  refine (HEK.out w4 (HG.out.below hw4 hlt)).mono ?_
  rintro r w5 ⟨rfl, hb5⟩
  have hw5 : RowKit.Below w.heap.size w w5 := hw4.trans (hb5.mono hw4.size)
  clear hb5
  go_wp2_with fail
  go_loop [15] (fun kk => kk = .int .i64 0) (fun _ => 0)
  case atStart => exact rfl
  case round =>
    obtain rfl := hrel
    go_wp2_with fail
    refine (HON.out _ hw5).mono ?_
    rintro r w7 ⟨rfl, hb7⟩
    have hw7 : RowKit.Below w.heap.size w w7 := hw5.trans (hb7.mono hw5.size)
    clear hb7
    go_wp2_with fail
    refine (HEK.out w7 (HG.out.below hw7 hlt)).mono ?_
    rintro r w8 ⟨rfl, hb8⟩
    have hw8 : RowKit.Below w.heap.size w w8 := hw7.trans (hb8.mono hw7.size)
    clear hb8
    go_wp2_with fail
    refine (HFA.out _ hw8).mono ?_
    rintro r wa ⟨rfl, hba⟩
    have hwa : RowKit.Below w.heap.size w wa := hw8.trans (hba.mono hw8.size)
    skip
    clear hba
    go_wp2_with fail
    refine (HFB.out _ hwa).mono ?_
    rintro r wb ⟨rfl, hbb⟩
    have hwb : RowKit.Below w.heap.size w wb := hwa.trans (hbb.mono hwa.size)
    skip
    clear hbb
    have hwc : RowKit.Below w.heap.size w (wb.alloc (.cells #[] 47)) := hwb.alloc hwb.size _
    have HO0 := Lib.hid (World.ownsRow_made (base := wb.heap.size) (e := 47) (size := 4) wb #[] 0 (Nat.le_refl _) (Nat.zero_le _) (by simp))
    have HBB : Hid (RowKit.Below wb.heap.size wb (wb.alloc (.cells #[] 47))) := by show RowKit.Below _ _ _; (repeat (first | assumption | exact Below.refl _ _ | apply Below.drew | apply below_drewN | (refine Below.alloc ?_ (by first | exact Nat.le_refl _ | omega | (simp; done) | (simp; omega)) _)))
    go_wp2_with (first
      | (at_builtin; refine wpList_append_own _ rfl (.tmp 104) (.tmp 105) 22 rfl wb.heap.size 47 j0 _ 4 48 Tryd.underlying22 hjj hy0 hy1 hy2 rfl (by omega) _ 0 [] rfl HO0.out ⟨ba, oa, none⟩ a.length c (flat a) rfl (flat_len a) (HF1.out _ hwc) (flat_one_cell _) (by unfold maxLen; omega) (by omega) (by simp) ?_; intro v1 wd hown1 hgrow1 _; have hbd : RowKit.Below wb.heap.size wb wd := HBB.out.grown hgrow1 (by simp) (fun q hq => (own_lt HO0.out hq).1); have hwd : RowKit.Below w.heap.size w wd := hwb.trans (hbd.mono hwb.size); rw [Nat.zero_add, List.nil_append] at hown1; have HO1 := Lib.hid hown1; obtain ⟨A1, d1, rfl, hd1, hm1, hs1⟩ := own_form_new hown1; clear hgrow1 hown1 hs1)
      | (at_builtin; refine wpList_append_own _ rfl (.tmp 106) (.tmp 107) 22 rfl wb.heap.size 47 j0 _ 4 48 Tryd.underlying22 hjj hy0 hy1 hy2 rfl (by omega) _ a.length (flat a) rfl HO1.out ⟨bb, ob, none⟩ b.length d (flat b) rfl (flat_len b) (HF2.out _ hwd) (flat_one_cell _) (by unfold maxLen; omega) (by omega) hbd.size ?_; intro v2 we hown2 hgrow2 _; have hbe : RowKit.Below wb.heap.size wb we := hbd.grown hgrow2 hbd.size (fun q hq => (own_lt HO1.out hq).1); have hwe : RowKit.Below w.heap.size w we := hwb.trans (hbe.mono hwb.size); rw [← flat_append, ← List.length_append] at hown2; obtain ⟨A2, d2, rfl, hd2, hm2, hs2, -⟩ := own_form_new hown2; have HS2 := Lib.hid hs2; clear hgrow2 hown2 hs2))
    refine (HATO.out we A2 d2 hwe hlab HS2.out).mono ?_
    rintro r wf ⟨rfl, hbf⟩
    have hwf : RowKit.Below w.heap.size w wf := hwe.trans (hbf.mono hwe.size)
    clear hbf
    go_wp2_with fail
    refine (HAL.out _ hwf).mono ?_
    rintro r wy ⟨rfl, hby⟩
    have hwy : RowKit.Below w.heap.size w wy := hwf.trans (hby.mono hwf.size)
    clear hby
    go_wp2_with fail
    refine (HEk.out wy (HG.out.below hwy hlt)).mono ?_
    rintro r wz ⟨rfl, hbz⟩
    go_wp2_with fail
    go_ret
    exact ⟨rfl, hwy.trans (hbz.mono hwy.size)⟩
theorem law_tables (a b : List Nd) (A : Option Addr) (c : Nat) (B : Option Addr) (d : Nat) (ss : List (List UInt8)) (An : Option Addr) (cn : Nat) (w : World) (hg : ErrCell w)
    (hc : a.length ≤ c) (hcm : c ≤ 9223372036854775807) (hok : NdOk a) (hsl : NdSl w w.heap.size A a) (hd : b.length ≤ d) (hdm : d ≤ 9223372036854775807) (hokb : NdOk b) (hslb : NdSl w w.heap.size B b)
    (hss : StrSl w w.heap.size An ss) (hn : ss.length ≤ cn) (hcn : cn ≤ 9223372036854775807) :
    Calls Tryd.prog 4 #[.slice A a.length c, .slice B b.length d, .slice An ss.length cn] w fun r w' => r = .returned (.bool true) ∧ RowKit.Below w.heap.size w w' := by
  by_cases hk : frmErr a ss = 0
  · by_cases hb : treeErr b = 0
    · by_cases hx : atomsErr (a ++ b) ss = 0
      · exact tables_A3 a b A c B d ss An cn w hg hc hcm hok hsl hd hdm hokb hslb hss hn hcn hk hb hx
      · exact tables_A2 a b A c B d ss An cn w hg hc hcm hok hsl hd hdm hokb hslb hss hn hcn hk hb hx
    · exact tables_A1 a b A c B d ss An cn w hg hc hcm hok hsl hd hdm hokb hslb hss hn hcn hk hb
  · by_cases ha : treeErr a = 0
    · by_cases hb : treeErr b = 0
      · exact tables_B3 a b A c B d ss An cn w hg hc hcm hok hsl hd hdm hokb hslb hss hn hcn hk ha hb
      · exact tables_B2 a b A c B d ss An cn w hg hc hcm hok hsl hd hdm hokb hslb hss hn hcn hk ha hb
    · exact tables_B1 a b A c B d ss An cn w hg hc hcm hok hsl hd hdm hokb hslb hss hn hcn hk ha
end Go.Proofs.YtnhcjpmamgdeoaaDoor
