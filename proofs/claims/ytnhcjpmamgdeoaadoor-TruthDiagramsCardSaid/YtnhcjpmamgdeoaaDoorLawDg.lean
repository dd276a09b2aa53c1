/-
  THE WALK of the law TruthDiagrams.
-/
import Derived.Test.YtnhcjpmamgdeoaaDoorRfE
import Derived.Test.YtnhcjpmamgdeoaaDoorCeL
import Derived.Test.YtnhcjpmamgdeoaaDoorTrT
import Derived.Test.YtnhcjpmamgdeoaaDoorTold
namespace Go.Proofs.YtnhcjpmamgdeoaaDoor
open Go.RowKit Go.Sort

set_option maxRecDepth 100000 in
set_option maxHeartbeats 6400000 in
theorem law_diagrams (e : List Nd) (A : Option Addr) (c : Nat) (ss : List (List UInt8)) (An : Option Addr) (cn : Nat) (w : World) (hg : ErrCell w) (hc : e.length ≤ c) (hcm : c ≤ 9223372036854775807) (hok : NdOk e) (hsl : NdSl w w.heap.size A e) (hss : StrSl w w.heap.size An ss) (hn : ss.length ≤ cn) (hcn : cn ≤ 9223372036854775807) :
    Calls Tryd.prog 3 #[.slice A e.length c, .slice An ss.length cn] w fun r w' => r = .returned (.bool true) ∧ RowKit.Below w.heap.size w w' := by
  have hlt := hg.lt
  have HG := Lib.hid hg
  have HF := Lib.hid (fun W (hW : RowKit.Below w.heap.size w W) => r4_FormulaFault e A c ss An cn W (by omega) hok ((hsl.below hW).more hW.size) ((hss.below hW).more hW.size) hn hcn)
  have HD := Lib.hid (fun W (hW : RowKit.Below w.heap.size w W) => truth_Diagram e A c ss An cn W hc hcm hok ((hsl.below hW).more hW.size) ((hss.below hW).more hW.size) hn hcn)
  have hdl := diaR_len e ss
  by_cases hk : frmErr e ss = 0
  · have HT := Lib.hid (fun W (hW : RowKit.Below w.heap.size w W) => table_ref e ss hk A c An cn W hok ((hsl.below hW).more hW.size) ((hss.below hW).more hW.size))
    have h6 := (frm_use hk).2.2.2
    have hTL : (tabB (evL e) ss).length = 2 ^ ss.length := tabB_len _ _
    have HR : Hid (diaR e ss = diaP ss.length (tabB (evL e) ss)) := by show _ = _; unfold diaR; rw [if_pos hk]; unfold tableP; rw [if_neg (by simp [hk])]
    have HQ := Lib.hid (fun A c W (hs : BoSl W W.heap.size A (tabB (evL e) ss)) => r4_DiagramOf (tabB (evL e) ss) ss.length h6 hTL A c W hs)
    rw [← HR.out] at HQ
    rw [hk] at HF HD
    generalize tabB (evL e) ss = T at HT HQ
    generalize diaR e ss = D at HD HQ hdl
    have t0 := errV_zero
    have HE := Lib.hid (fun W (hW : ErrCell W) => same_Error 0 W hW)
    rw [errV_zero] at HE
    clear hok hsl hss hg hk hTL HR h6
    go_enter Tryd.func3, Tryd.ntmps3
    go_wp2_with fail
    refine (law_tabled w).mono ?_
    rintro r w1 ⟨rfl, hw1⟩
    go_wp2_with fail
    refine (HF.out _ hw1).mono ?_
    rintro r w2 ⟨rfl, hb2⟩
    have hw2 : RowKit.Below w.heap.size w w2 := hw1.trans (hb2.mono hw1.size)
    clear hb2
    go_wp2_with fail
    refine (HT.out _ hw2).mono ?_
    rintro r w3 ⟨A3, c3, rfl, _, _, hs3, hb3⟩
    have hw3 : RowKit.Below w.heap.size w w3 := hw2.trans (hb3.mono hw2.size)
    have HS3 := Lib.hid hs3
    clear hb3 hs3
    go_wp2_with fail
    refine (HQ.out _ _ _ HS3.out).mono ?_
    rintro r w4 ⟨A4, c4, rfl, _, _, hs4, hb4⟩
    have hw4 : RowKit.Below w.heap.size w w4 := hw3.trans (hb4.mono hw3.size)
    have HS4 := Lib.hid hs4
    clear hb4 hs4
    go_wp2_with fail
    refine (HD.out _ hw4).mono ?_
    rintro r w5 ⟨A5, c5, rfl, _, _, hs5, hb5⟩
    have hw5 : RowKit.Below w.heap.size w w5 := hw4.trans (hb5.mono hw4.size)
    have HS5 := Lib.hid hs5
    have HS45 := Lib.hid ((HS4.out.below hb5).more hb5.size)
    clear hb5 hs5
    go_wp2_with fail
    refine (HE.out w5 (HG.out.below hw5 hlt)).mono ?_
    rintro r w6 ⟨rfl, hb6⟩
    have hw6 : RowKit.Below w.heap.size w w6 := hw5.trans (hb6.mono hw5.size)
    have HS46 := Lib.hid ((HS45.out.below hb6).more hb6.size)
    have HS56 := Lib.hid ((HS5.out.below hb6).more hb6.size)
    clear hb6
    go_wp2_with fail
    refine (law_cells D D A5 A4 c5 c4 w6 HS56.out HS46.out (by omega) (by omega)).mono ?_
    rintro r w7 ⟨rfl, hb7⟩
    have hdd : (D == D) = true := by simp
    rw [hdd]
    go_wp2_with fail
    go_ret
    exact ⟨rfl, hw6.trans (hb7.mono hw6.size)⟩
  · have HR : diaR e ss = [] := by unfold diaR; rw [if_neg hk]
    have tk : (frmErr e ss == 0) = false := by simp [hk]
    rw [HR] at HD
    generalize frmErr e ss = k at HF HD tk
    have HE := Lib.hid (fun W (hW : ErrCell W) => same_Error k W hW)
    clear hok hsl hss hg hk HR
    go_enter Tryd.func3, Tryd.ntmps3
    go_wp2_with fail
    refine (law_tabled w).mono ?_
    rintro r w1 ⟨rfl, hw1⟩
    go_wp2_with fail
    refine (HF.out _ hw1).mono ?_
    rintro r w2 ⟨rfl, hb2⟩
    have hw2 : RowKit.Below w.heap.size w w2 := hw1.trans (hb2.mono hw1.size)
    clear hb2
    go_wp2_with fail
    refine (HD.out _ hw2).mono ?_
    rintro r w5 ⟨A5, c5, rfl, _, _, hs5, hb5⟩
    have hw5 : RowKit.Below w.heap.size w w5 := hw2.trans (hb5.mono hw2.size)
    clear hb5 hs5
    go_wp2_with fail
    refine (HE.out w5 (HG.out.below hw5 hlt)).mono ?_
    rintro r w6 ⟨rfl, hb6⟩
    have hw6 : RowKit.Below w.heap.size w w6 := hw5.trans (hb6.mono hw5.size)
    clear hb6
    go_wp2_with fail
    refine (law_cells [] [] A5 none c5 0 w6 (SlG.nil _ _ _) (SlG.nil _ _ _) (by simp) (by simp)).mono ?_
    rintro r w7 ⟨rfl, hb7⟩
    have hdd : (([] : List Ce) == []) = true := by simp
    rw [hdd]
    go_wp2_with fail
    go_ret
    exact ⟨rfl, hw6.trans (hb7.mono hw6.size)⟩
end Go.Proofs.YtnhcjpmamgdeoaaDoor
