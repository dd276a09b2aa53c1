/-
  THE WALK of the law TreeChecks.
-/
import Derived.Test.YtcghjnpllobdmaaDoorTold
import Derived.Test.YtcghjnpllobdmaaDoorRef5
import Derived.Test.YtcghjnpllobdmaaDoorRef6
import Derived.Test.YtcghjnpllobdmaaDoorLaw0
namespace Go.Proofs.YtcghjnpllobdmaaDoor
open Go.RowKit

theorem fact_checks : endV [⟨9, 0, ⟨#[]⟩, ⟨#[]⟩⟩, ⟨8, 0, ⟨#[97]⟩, ⟨#[]⟩⟩] 0 = (2, 0) := by
  have h : treeErr [⟨9, 0, ⟨#[]⟩, ⟨#[]⟩⟩, ⟨8, 0, ⟨#[97]⟩, ⟨#[]⟩⟩] = 0 := by
    simp [treeErr, bGo, shapedT, ndParts, variableB, nameErr, nameB, letterI, digitI, reserved, ByteArray.toList_mk]
  rw [end_zero h]; rfl
theorem end_beh {e : List Nd} (h : treeErr e = 0) {k : Nat} {x : Nd} (hx : e[k]? = some x) (h7 : ¬ x.op = 7) : endV e k = (behV e k, 0) := by
  have hk : k < e.length := (List.getElem?_eq_some_iff.1 hx).1
  unfold endV
  rw [if_neg (by simp [h]), if_neg (by omega), show (k : Int).toNat = k from rfl, hx]
  simp only
  rw [if_neg h7, behV_nat, bR_one_len e false (by omega)]
theorem end_out {e : List Nd} (h : treeErr e = 0) {i : Int} (hi : i < 0 ∨ (e.length : Int) ≤ i) : endV e i = (0, 3) := by
  unfold endV
  rw [if_neg (by simp [h]), if_pos hi]
theorem end_fld {e : List Nd} (h : treeErr e = 0) {k : Nat} {x : Nd} (hx : e[k]? = some x) (h7 : x.op = 7) : endV e k = (0, 2) := by
  have hk : k < e.length := (List.getElem?_eq_some_iff.1 hx).1
  unfold endV
  rw [if_neg (by simp [h]), if_neg (by omega), show (k : Int).toNat = k from rfl, hx]
  simp only
  rw [if_pos h7]
theorem end_bad {e : List Nd} (h : ¬ treeErr e = 0) (i : Int) : endV e i = (0, treeErr e) := by
  unfold endV
  rw [if_pos h]
theorem varsR_good {e : List Nd} (h : treeErr e = 0) : varsR e = varsL e := by simp [varsR, h]
theorem varsR_bad {e : List Nd} (h : ¬ treeErr e = 0) : varsR e = [] := by simp [varsR, h]

set_option maxRecDepth 100000 in
set_option maxHeartbeats 8000000 in
theorem law_checks (e : List Nd) (at_ : Int) (A : Option Addr) (c : Nat) (w : World) (hg : ErrCell w) (hc : e.length ≤ c) (hcm : c ≤ 9223372036854775807) (hok : NdOk e) (hsl : NdSl w w.heap.size A e)
    (ha : -9223372036854775808 ≤ at_ ∧ at_ ≤ 9223372036854775807) :
    Calls Tryd.prog 6 #[.slice A e.length c, .int .i64 at_] w fun r w' => r = .returned (.bool true) ∧ RowKit.Below w.heap.size w w' := by
  have hlt := hg.lt
  have HS := Lib.hid hsl
  have HOK := Lib.hid hok
  have HG := Lib.hid hg
  have HF : Hid (∀ W, RowKit.Below w.heap.size w W → Calls Tryd.prog 16 #[.slice A e.length c] W fun r w' => r = .returned (.int .i64 (treeErr e)) ∧ RowKit.Below W.heap.size W w') := fun W hW => r2_Fault e A c W (by omega) hok ((hsl.below hW).more hW.size)
  have HCH : Hid (∀ W, RowKit.Below w.heap.size w W → Calls Tryd.prog 17 #[.slice A e.length c] W fun r w' => r = .returned (errV (treeErr e)) ∧ RowKit.Below W.heap.size W w') := fun W hW => tree_Check e A c W hc hcm hok ((hsl.below hW).more hW.size)
  have HVA : Hid (∀ W, RowKit.Below w.heap.size w W → Calls Tryd.prog 19 #[.slice A e.length c] W fun r w' => StrsBack W r w' (varsR e) (treeErr e)) := fun W hW => tree_Vars e A c W hc hcm hok ((hsl.below hW).more hW.size)
  have HEN : Hid (∀ W, RowKit.Below w.heap.size w W → Calls Tryd.prog 14 #[.slice A e.length c, .int .i64 at_] W fun r w' => r = .returned (.tuple #[.int .i64 (endV e at_).1, errV (endV e at_).2]) ∧ RowKit.Below W.heap.size W w') := fun W hW => tree_End e A c at_ W hc hcm hok ((hsl.below hW).more hW.size)
  clear hsl hok hg
  go_enter Tryd.func6, Tryd.ntmps6
  go_wp2_with fail
  refine (law_name _ _).mono ?_
  rintro r w1 ⟨rfl, hb1⟩
  go_wp2_with fail
  have hw1 : RowKit.Below w.heap.size w (w1.alloc (.cells #[.int .i64 9, .int .i64 0, .string ⟨#[]⟩, .string ⟨#[]⟩, .int .i64 8, .int .i64 0, .string ⟨#[97]⟩, .string ⟨#[]⟩] 46)) := hb1.alloc hb1.size _
  have hn1 := new_nodes w1 46 [⟨9, 0, ⟨#[]⟩, ⟨#[]⟩⟩, ⟨8, 0, ⟨#[97]⟩, ⟨#[]⟩⟩] _ rfl
  have hv := tree_End [⟨9, 0, ⟨#[]⟩, ⟨#[]⟩⟩, ⟨8, 0, ⟨#[97]⟩, ⟨#[]⟩⟩] (some ⟨w1.heap.size, 0, none⟩) 2 0 _ (by simp) (by omega) (ndok_small _ (by decide)) (hn1.more (by simp))
  rw [fact_checks] at hv
  refine Calls.mono hv ?_
  rintro r w2 ⟨rfl, hb2⟩
  have hw2 : RowKit.Below w.heap.size w w2 := hw1.trans (hb2.mono hw1.size)
  clear hw1 hn1 hv hb1 hb2
  go_wp2_with fail
  refine Calls.mono (HF.out _ hw2) ?_
  rintro r w3 ⟨rfl, hb3⟩
  have hw3 : RowKit.Below w.heap.size w w3 := hw2.trans (hb3.mono hw2.size)
  clear hw2 hb3
  go_wp2_with fail
  refine Calls.mono (HCH.out _ hw3) ?_
  rintro r w4 ⟨rfl, hb4⟩
  have hw4 : RowKit.Below w.heap.size w w4 := hw3.trans (hb4.mono hw3.size)
  clear hw3 hb4
  go_wp2_with fail
  refine Calls.mono (same_Error (treeErr e) w4 (HG.out.below hw4 hlt)) ?_
  rintro r w5 ⟨rfl, hb5⟩
  have hw5 : RowKit.Below w.heap.size w w5 := hw4.trans (hb5.mono hw4.size)
  clear hw4 hb5
  by_cases h0 : treeErr e = 0
  · have he0 : (treeErr e == 0) = true := by simp [h0]
    have HR := Lib.hid (varsR_good h0)
    have hvl : (varsL e).length ≤ 9223372036854775807 := Nat.le_trans (varsL_len e) (by omega)
    have HNA : Hid (∀ W, RowKit.Below w.heap.size w W → Calls Tryd.prog 18 #[.slice A e.length c] W fun r w' => ∃ A' c', r = .returned (.slice A' (varsL e).length c') ∧ StrSl w' w'.heap.size A' (varsL e) ∧ RowKit.Below W.heap.size W w') := fun W hW => r2_Names e A c W h0 HOK.out ((HS.out.below hW).more hW.size)
    have HE0 := Lib.hid h0
    clear h0
    go_wp2_with fail
    refine Calls.mono (HNA.out _ hw5) ?_
    rintro r w6 ⟨A6, c6, rfl, hs6, hb6⟩
    have HS6 := Lib.hid hs6
    have hw6 : RowKit.Below w.heap.size w w6 := hw5.trans (hb6.mono hw5.size)
    clear hw5 hb6 hs6
    go_wp2_with fail
    refine Calls.mono (HVA.out _ hw6) ?_
    rintro r w7 ⟨A7, c7, rfl, _, _, hs7, hb7⟩
    rw [HR.out] at hs7
    have HS7 := Lib.hid hs7
    have HS6' := Lib.hid ((HS6.out.below hb7).more hb7.size)
    have hw7 : RowKit.Below w.heap.size w w7 := hw6.trans (hb7.mono hw6.size)
    clear hw6 hb7 hs7 HS6
    go_wp2_with fail
    refine Calls.mono (same_Error (treeErr e) w7 (HG.out.below hw7 hlt)) ?_
    rintro r w8 ⟨rfl, hb8⟩
    have hw8 : RowKit.Below w.heap.size w w8 := hw7.trans (hb8.mono hw7.size)
    have HS6 := Lib.hid ((HS6'.out.below hb8).more hb8.size)
    have HS8 := Lib.hid ((HS7.out.below hb8).more hb8.size)
    clear hw7 hb8 HS6' HS7
    go_wp2_with fail
    rw [HR.out]
    refine Calls.mono (same_Texts (varsL e) A7 A6 c7 c6 w8 HS8.out HS6.out hvl) ?_
    rintro r w9 ⟨rfl, hb9⟩
    have hw9 : RowKit.Below w.heap.size w w9 := hw8.trans (hb9.mono hw8.size)
    clear hw8 hb9 HS8 HS6 HR
    by_cases hout : at_ < 0 ∨ (e.length : Int) ≤ at_
    · have HE := Lib.hid (end_out HE0.out hout)
      rw [HE.out] at HEN
      rcases hout with h | h
      · go_wp2_with fail
        refine Calls.mono (HEN.out _ hw9) ?_
        rintro r w10 ⟨rfl, hb10⟩
        have hw10 : RowKit.Below w.heap.size w w10 := hw9.trans (hb10.mono hw9.size)
        clear hw9 hb10
        go_wp2_with fail
        refine Calls.mono (same_Error 3 w10 (HG.out.below hw10 hlt)) ?_
        rintro r w11 ⟨rfl, hb11⟩
        go_wp2_with fail
        go_ret
        exact ⟨rfl, hw10.trans (hb11.mono hw10.size)⟩
      · have h' : ¬ at_ < 0 := by omega
        go_wp2_with fail
        refine Calls.mono (HEN.out _ hw9) ?_
        rintro r w10 ⟨rfl, hb10⟩
        have hw10 : RowKit.Below w.heap.size w w10 := hw9.trans (hb10.mono hw9.size)
        clear hw9 hb10
        go_wp2_with fail
        refine Calls.mono (same_Error 3 w10 (HG.out.below hw10 hlt)) ?_
        rintro r w11 ⟨rfl, hb11⟩
        go_wp2_with fail
        go_ret
        exact ⟨rfl, hw10.trans (hb11.mono hw10.size)⟩
    · obtain ⟨k, rfl⟩ : ∃ k : Nat, at_ = k := ⟨at_.toNat, by omega⟩
      have hkl : k < e.length := by omega
      have hkl' : ¬ (e.length : Int) ≤ k := by omega
      obtain ⟨x, hx⟩ : ∃ x, e[k]? = some x := ⟨_, List.getElem?_eq_getElem hkl⟩
      obtain ⟨b, o, rfl, hb, hcs⟩ := (HS.out.below hw9).at_ hkl
      obtain ⟨d0, d1, d2, d3⟩ := hcs k x hx
      have HX := Lib.hid hx
      clear hout hcs hx
      by_cases h7 : x.op = 7
      · have p7 : (x.op == 7) = true := by simp [h7]
        have HE := Lib.hid (end_fld HE0.out HX.out h7)
        rw [HE.out] at HEN
        clear h7
        go_wp2_with fail
        refine Calls.mono (HEN.out _ hw9) ?_
        rintro r w10 ⟨rfl, hb10⟩
        have hw10 : RowKit.Below w.heap.size w w10 := hw9.trans (hb10.mono hw9.size)
        clear hw9 hb10 d0 d1 d2 d3
        go_wp2_with fail
        refine Calls.mono (same_Error 2 w10 (HG.out.below hw10 hlt)) ?_
        rintro r w11 ⟨rfl, hb11⟩
        go_wp2_with fail
        go_ret
        exact ⟨rfl, hw10.trans (hb11.mono hw10.size)⟩
      · have p7 : (x.op == 7) = false := by simp [h7]
        have HE := Lib.hid (end_beh HE0.out HX.out h7)
        rw [HE.out] at HEN
        have HBE := Lib.hid (fun W (hW : RowKit.Below w.heap.size w W) => r2_Behind e (e.length - k) k (some ⟨b, o, none⟩) c W (by omega) (tree_len HE0.out).1 HOK.out ((HS.out.below hW).more hW.size))
        have heq : (behV e k == behV e k) = true := by simp
        clear h7
        go_wp2_with fail
        refine Calls.mono (HBE.out _ hw9) ?_
        rintro r w10 ⟨rfl, hb10⟩
        have hw10 : RowKit.Below w.heap.size w w10 := hw9.trans (hb10.mono hw9.size)
        clear hw9 hb10 d0 d1 d2 d3
        go_wp2_with fail
        refine Calls.mono (HEN.out _ hw10) ?_
        rintro r w11 ⟨rfl, hb11⟩
        have hw11 : RowKit.Below w.heap.size w w11 := hw10.trans (hb11.mono hw10.size)
        clear hw10 hb11
        go_wp2_with fail
        have hse : Calls Tryd.prog 10 #[errV 0, .int .i64 (treeErr e)] w11 fun e w' => e = .returned (.bool true) ∧ RowKit.Below w11.heap.size w11 w' := by rw [HE0.out]; exact same_Error 0 w11 (HG.out.below hw11 hlt)
        refine Calls.mono hse ?_
        rintro r w12 ⟨rfl, hb12⟩
        go_wp2_with fail
        go_ret
        exact ⟨rfl, hw11.trans (hb12.mono hw11.size)⟩
  · have he0 : (treeErr e == 0) = false := by simp [h0]
    have HR := Lib.hid (varsR_bad h0)
    have HE := Lib.hid (end_bad h0 at_)
    rw [HE.out] at HEN
    rw [HR.out] at HVA
    clear h0
    go_wp2_with fail
    refine Calls.mono (HVA.out _ hw5) ?_
    rintro r w7 ⟨A7, c7, rfl, _, _, hs7, hb7⟩
    have hw7 : RowKit.Below w.heap.size w w7 := hw5.trans (hb7.mono hw5.size)
    clear hw5 hb7 hs7
    go_wp2_with fail
    refine Calls.mono (same_Error (treeErr e) w7 (HG.out.below hw7 hlt)) ?_
    rintro r w8 ⟨rfl, hb8⟩
    have hw8 : RowKit.Below w.heap.size w w8 := hw7.trans (hb8.mono hw7.size)
    clear hw7 hb8
    go_wp2_with fail
    refine Calls.mono (same_Texts [] A7 none c7 0 w8 (StrSl.nil _ _ _) (StrSl.nil _ _ _) (by simp)) ?_
    rintro r w9 ⟨rfl, hb9⟩
    have hw9 : RowKit.Below w.heap.size w w9 := hw8.trans (hb9.mono hw8.size)
    clear hw8 hb9
    go_wp2_with fail
    refine Calls.mono (HEN.out _ hw9) ?_
    rintro r w10 ⟨rfl, hb10⟩
    have hw10 : RowKit.Below w.heap.size w w10 := hw9.trans (hb10.mono hw9.size)
    clear hw9 hb10
    go_wp2_with fail
    refine Calls.mono (same_Error (treeErr e) w10 (HG.out.below hw10 hlt)) ?_
    rintro r w11 ⟨rfl, hb11⟩
    go_wp2_with fail
    go_ret
    exact ⟨rfl, hw10.trans (hb11.mono hw10.size)⟩
end Go.Proofs.YtcghjnpllobdmaaDoor
