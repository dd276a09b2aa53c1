/-
  THE WALKS: the reference's PolicyFault.
-/
import Derived.Test.YtbommoefpekalaaGreatDoorRp1
import Derived.Test.YtbommoefpekalaaGreatDoorRef5
import Derived.Test.YtbommoefpekalaaGreatDoorRef6
import Derived.Test.YtbommoefpekalaaGreatDoorPol2
namespace Go.Proofs.YtbommoefpekalaaGreatDoor
open Go.RowKit Go.Sort

theorem str_of (l : List UInt8) : ∃ s : ByteArray, encStr l = .string s ∧ s.toList = l := ⟨⟨l.toArray⟩, rfl, by rw [ByteArray.toList_eq]⟩
theorem any_take_step {α : Type} {l : List α} {f : α → Bool} {j : Nat} {y : α} (h : (l.take j).any f = false) (hy : l[j]? = some y) (hf : f y = false) : (l.take (j + 1)).any f = false := by
  rw [List.take_add_one, hy, List.any_append, h]; simp [hf]
set_option maxRecDepth 100000 in
set_option maxHeartbeats 6400000 in
theorem r4_PolicyFault (p : Po) (cs : List CdM) (A : Option Addr) (c : Nat) (w : World) (hp : p.conds = cs.map CdM.cd) (hz : PoZ p) (hc : CdsAt w w.heap.size A cs) (hl : cs.length ≤ 9223372036854775807) :
    Calls Tryz.prog 15 #[.agg #[.string p.name, .bool p.forbid, .int .i64 p.who.op, .string p.who.ty, .string p.who.uid.ty, .string p.who.uid.id, .int .i64 p.act.op, .string p.act.ty, .string p.act.uid.ty, .string p.act.uid.id, .int .i64 p.what.op, .string p.what.ty, .string p.what.uid.ty, .string p.what.uid.id, .slice A cs.length c]] w fun e w' => e = .returned (.int .i64 (polErr p)) ∧ RowKit.Below w.heap.size w w' := by
  obtain ⟨q, hq⟩ : ∃ q, polErr p = q := ⟨_, rfl⟩
  rw [hq]
  have HQ := Lib.hid hq
  have HP := Lib.hid hp
  have HC := Lib.hid hc
  have HN := Lib.hid (fun W => r1_NameFault p.name W hz.1)
  have HS0 := Lib.hid (fun W => r4_ScopeFits p.who true hz.2.1 W)
  have HS1 := Lib.hid (fun W => r4_ScopeFits p.act false hz.2.2.1 W)
  have HS2 := Lib.hid (fun W => r4_ScopeFits p.what true hz.2.2.2 W)
  clear hq hp hc hz
  by_cases hn : nameErr p.name.toList = 0
  · rw [hn] at HN
    by_cases s0 : scOk p.who true = true
    · rw [s0] at HS0
      by_cases s1 : scOk p.act false = true
      · rw [s1] at HS1
        by_cases s2 : scOk p.what true = true
        · rw [s2] at HS2
          have HQ2 : Hid (q = if 4 < cs.length then 4 else cdsErr (cs.map CdM.cd)) := by
            show _ = _
            rw [← HQ.out, polErr, if_neg (by simp [hn]), if_neg (by simp [s0, s1, s2]), HP.out, List.length_map]
          clear s0 s1 s2 hn HQ HP
          go_enter Tryz.func15, Tryz.ntmps15
          go_wp2_with fail
          refine (HN.out _).mono ?_
          rintro e w' ⟨rfl, rfl⟩
          go_wp2_with fail
          refine (HS0.out _).mono ?_
          rintro e w1 ⟨rfl, hb1⟩
          have B1 := (Blk.new w 45 _).below hb1 (by simp)
          have hw1 := two_on hb1
          have c1 := B1.cell
          have l1 := B1.lt
          clear hb1
          go_wp2_with fail
          refine (HS1.out _).mono ?_
          rintro e w2 ⟨rfl, hb2⟩
          have B2 := B1.below hb2 B1.lt
          have hw2 := hw1.trans (hb2.mono hw1.size)
          clear hb2 c1 l1 B1 hw1
          have c1 := B2.cell
          have l1 := B2.lt
          go_wp2_with fail
          refine (HS2.out _).mono ?_
          rintro e w3 ⟨rfl, hb3⟩
          have B3 := B2.below hb3 B2.lt
          have hw3 := hw2.trans (hb3.mono hw2.size)
          clear hb3 c1 l1 B2 hw2
          have c1 := B3.cell 14
          have l1 := B3.lt
          simp only [List.getElem?_toArray, List.getElem?_cons_succ, List.getElem?_cons_zero] at c1
          clear HN HS0 HS1 HS2 B3
          by_cases h4 : 4 < cs.length
          · have t4 : 4 < (cs.length : Int) := by omega
            rw [if_pos h4] at HQ2
            clear h4
            go_wp2_with fail
            go_ret
            exact ⟨ret_int HQ2.out.symm, hw3⟩
          · have t4 : ¬ 4 < (cs.length : Int) := by omega
            rw [if_neg h4] at HQ2
            have HC4 := Lib.hid (HC.out.later hw3)
            go_wp2_with fail
            go_loopw [4] (fun ii wr => ∃ k : Nat, ii = .int .i64 k ∧ k ≤ cs.length ∧ Hid (∀ i y, i < k → cs[i]? = some y → cdErr y.e = 0) ∧ wr.cell? ⟨w.heap.size, 14, none⟩ = some (.slice A cs.length c) ∧ w.heap.size < wr.heap.size ∧ RowKit.Below w3.heap.size w3 wr) (fun ii _ => cs.length - (intOf ii).toNat)
            case atStart => exact ⟨0, rfl, by omega, (fun i y hi => absurd hi (by omega)), c1, l1, RowKit.Below.refl _ _⟩
            case round =>
              clear c1 l1
              obtain ⟨k, rfl, hk, HK, c1, l1, hbr⟩ := hrel
              have hzr := hbr.size
              by_cases hlt : k < cs.length
              · obtain ⟨⟨u, Ax, cx, e⟩, hx⟩ : ∃ x, cs[k]? = some x := ⟨_, List.getElem?_eq_getElem hlt⟩
                have hg := (HC4.out.later hbr).good _ (List.mem_of_getElem? hx)
                obtain ⟨b, o, rfl, hb, ⟨-, d1⟩⟩ := cdSl_at (HC4.out.later hbr).sl hx
                have HX := Lib.hid hx
                have HF := Lib.hid (r2_Fault e Ax cx wr (Nat.le_trans hg.le hg.max) hg.ok hg.sl)
                have HG := Lib.hid hg
                clear hx hg
                simp only at d1
                by_cases ht : treeErr e = 0
                · rw [ht] at HF
                  have HT := Lib.hid ht
                  have HNE := Lib.hid (varNames_ne ht)
                  clear ht
                  go_wp2_with fail
                  refine HF.out.mono ?_
                  rintro r w5 ⟨rfl, hb5⟩
                  have hz5 := hb5.size
                  have d5 := (hb5.cell (p := ⟨b, o + k * 2 + 1, none⟩) hb).trans d1
                  have c5 := (hb5.cell (p := ⟨w.heap.size, 14, none⟩) l1).trans c1
                  have l5 : w.heap.size < w5.heap.size := by omega
                  have hb' : b < w5.heap.size := by omega
                  have HNM := Lib.hid (r2_Names e Ax cx w5 HT.out HG.out.ok ((HG.out.sl.below hb5).more hz5))
                  have hw5 := hbr.trans (hb5.mono hzr)
                  clear hb5 d1 c1
                  go_wp2_with fail
                  refine HNM.out.mono ?_
                  rintro r w6 ⟨A6, c6, rfl, hs6, hb6⟩
                  have hz6 := hb6.size
                  have c7 := (hb6.cell (p := ⟨w.heap.size, 14, none⟩) l5).trans c5
                  have l7 : w.heap.size < w6.heap.size := by omega
                  have HS6 := Lib.hid hs6
                  have hw6 := hw5.trans (hb6.mono hw5.size)
                  have hvl : (varsL e).length ≤ 200 := Nat.le_trans (varsL_len e) (tree_len HT.out).1
                  clear hb6 hs6 d5 c5 l1 l5
                  have HSV := Lib.hid (slot_vars e)
                  have HMV : Hid (∀ l ∈ varsL e, l ≠ []) := by
                    intro l hl he
                    subst he
                    exact HNE.out ((mem_varsL e _).1 hl)
                  generalize varsL e = vs at HS6 hvl HSV HMV ⊢
                  go_wp2_with fail
                  go_loopw [6] (fun jj wi => ∃ j : Nat, jj = .int .i64 j ∧ j ≤ vs.length ∧ Hid ((vs.take j).any slotB = false) ∧ RowKit.Below w6.heap.size w6 wi) (fun jj _ => vs.length - (intOf jj).toNat)
                  case atStart => exact ⟨0, rfl, by omega, rfl, RowKit.Below.refl _ _⟩
                  case round =>
                    obtain ⟨j, rfl, hj, HJ, hbi⟩ := hrel
                    have hzi := hbi.size
                    by_cases hlj : j < vs.length
                    · obtain ⟨l, hl⟩ : ∃ l, vs[j]? = some l := ⟨_, List.getElem?_eq_getElem hlj⟩
                      obtain ⟨bn, on, rfl, hbn, hcs⟩ := (HS6.out.below hbi).at_ hlj
                      have f0 := hcs j l hl
                      obtain ⟨s, hs1, hs2⟩ := str_of l
                      rw [hs1] at f0
                      have hne : s.toList ≠ [] := by rw [hs2]; exact HMV.out l (List.mem_of_getElem? hl)
                      have hs0 : 0 < s.size := by
                        rcases Nat.eq_zero_or_pos s.size with h | h
                        · exact absurd (List.eq_nil_of_length_eq_zero (by rw [toList_len]; exact h)) hne
                        · exact h
                      have hi0 := run_at_str s 0 hs0
                      obtain ⟨l0, hl0⟩ : ∃ r, s.toList = s[0] :: r := ⟨_, by have := list_drop s 0 hs0; rwa [List.drop_zero] at this⟩
                      have HSN : Hid (slotB l = (s[0] == 63)) := by show _ = _; rw [← hs2]; unfold slotB; rw [hl0]; simp
                      have HY := Lib.hid hl
                      clear hl hcs hs1 hs2 hne hl0
                      by_cases h63 : s[0] = 63
                      · have t63 : ((s[0].toNat : Int) == 63) = true := beq_chr h63
                        have hcd : cdErr e = 1 := by
                          rw [cdErr, if_neg (by rw [HT.out]; simp), if_pos]
                          rw [HSV.out, List.any_eq_true]
                          exact ⟨l, List.mem_of_getElem? HY.out, by rw [HSN.out, h63]; rfl⟩
                        have hq : q = 1 := by rw [HQ2.out, cds_bad HK.out HX.out (by show ¬ cdErr e = 0; rw [hcd]; decide)]; exact hcd
                        have HQV := Lib.hid hq
                        clear hcd h63 hq
                        go_wp2_with fail
                        go_ret
                        exact ⟨ret_int HQV.out.symm, hw3.trans ((hw6.trans (hbi.mono hw6.size)).mono hw3.size)⟩
                      · have t63 : ((s[0].toNat : Int) == 63) = false := bne_chr h63
                        have HJ2 : Hid ((vs.take (j + 1)).any slotB = false) := any_take_step HJ.out HY.out (by rw [HSN.out]; simpa using h63)
                        clear h63
                        go_wp2_with fail
                        exact ⟨⟨j + 1, by go_num, by omega, HJ2, hbi⟩, by simp [intOf]; omega⟩
                    · have hje : j = vs.length := by omega
                      have hcd : cdErr e = 0 := by
                        have := HJ.out
                        rw [hje, List.take_of_length_le (Nat.le_refl _)] at this
                        rw [cdErr, if_neg (by rw [HT.out]; simp), if_neg (by rw [HSV.out, this]; simp)]
                      have HK2 : Hid (∀ i y, i < k + 1 → cs[i]? = some y → cdErr y.e = 0) := by
                        intro i y hi hy
                        rcases Nat.lt_or_ge i k with h | h
                        · exact HK.out i y h hy
                        · have : i = k := by omega
                          subst this
                          rw [HX.out] at hy
                          injection hy with hy
                          subst hy
                          exact hcd
                      have c9 := (hbi.cell (p := ⟨w.heap.size, 14, none⟩) l7).trans c7
                      have l9 := Nat.lt_of_lt_of_le l7 hzi
                      have hw9 := hw6.trans (hbi.mono hw6.size)
                      clear hje hcd
                      go_wp2_with fail
                      exact ⟨⟨k + 1, by go_num, by omega, HK2, c9, l9, hw9⟩, by simp [intOf]; omega⟩
                · have tt : (treeErr e != 0) = true := by simp [ht]
                  have hq : q = treeErr e := by
                    have hcd : cdErr e = treeErr e := by rw [cdErr, if_pos ht]
                    rw [HQ2.out, cds_bad HK.out HX.out (by show ¬ cdErr e = 0; rw [hcd]; exact ht)]; exact hcd
                  have HQV := Lib.hid hq
                  clear ht hq
                  go_wp2_with fail
                  refine HF.out.mono ?_
                  rintro r w5 ⟨rfl, hb5⟩
                  have hw5 := hbr.trans (hb5.mono hzr)
                  clear hb5
                  go_wp2_with fail
                  go_ret
                  exact ⟨ret_int HQV.out.symm, hw3.trans (hw5.mono hw3.size)⟩
              · have hq : q = 0 := by
                  rw [HQ2.out]
                  exact cds_good fun i y hy => HK.out i y (by have := (List.getElem?_eq_some_iff.1 hy).1; omega) hy
                have HQV := Lib.hid hq
                clear hq
                go_wp2_with fail
                go_ret
                exact ⟨ret_int HQV.out.symm, hw3.trans (hbr.mono hw3.size)⟩
        · have s2' : scOk p.what true = false := by simpa using s2
          rw [s2'] at HS2
          have hv : q = 1 := by rw [← HQ.out, polErr, if_neg (by simp [hn]), if_pos (.inr (.inr s2'))]
          have HV := Lib.hid hv
          clear s0 s1 s2 s2' hn hv
          go_enter Tryz.func15, Tryz.ntmps15
          go_wp2_with fail
          refine (HN.out _).mono ?_
          rintro e w' ⟨rfl, rfl⟩
          go_wp2_with fail
          refine (HS0.out _).mono ?_
          rintro e w1 ⟨rfl, hb1⟩
          have B1 := (Blk.new w 45 _).below hb1 (by simp)
          have hw1 := two_on hb1
          have c1 := B1.cell
          have l1 := B1.lt
          clear hb1
          go_wp2_with fail
          refine (HS1.out _).mono ?_
          rintro e w2 ⟨rfl, hb2⟩
          have B2 := B1.below hb2 B1.lt
          have hw2 := hw1.trans (hb2.mono hw1.size)
          clear hb2 c1 l1 B1 hw1
          have c1 := B2.cell
          have l1 := B2.lt
          go_wp2_with fail
          refine (HS2.out _).mono ?_
          rintro e w3 ⟨rfl, hb3⟩
          have hw3 := hw2.trans (hb3.mono hw2.size)
          clear hb3
          go_wp2_with fail
          go_ret
          exact ⟨ret_int HV.out.symm, hw3⟩
      · have s1' : scOk p.act false = false := by simpa using s1
        rw [s1'] at HS1
        have hv : q = 1 := by rw [← HQ.out, polErr, if_neg (by simp [hn]), if_pos (.inr (.inl s1'))]
        have HV := Lib.hid hv
        clear s0 s1 s1' hn hv
        go_enter Tryz.func15, Tryz.ntmps15
        go_wp2_with fail
        refine (HN.out _).mono ?_
        rintro e w' ⟨rfl, rfl⟩
        go_wp2_with fail
        refine (HS0.out _).mono ?_
        rintro e w1 ⟨rfl, hb1⟩
        have B1 := (Blk.new w 45 _).below hb1 (by simp)
        have hw1 := two_on hb1
        have c1 := B1.cell
        have l1 := B1.lt
        clear hb1
        go_wp2_with fail
        refine (HS1.out _).mono ?_
        rintro e w2 ⟨rfl, hb2⟩
        have hw2 := hw1.trans (hb2.mono hw1.size)
        clear hb2
        go_wp2_with fail
        go_ret
        exact ⟨ret_int HV.out.symm, hw2⟩
    · have s0' : scOk p.who true = false := by simpa using s0
      rw [s0'] at HS0
      have hv : q = 1 := by rw [← HQ.out, polErr, if_neg (by simp [hn]), if_pos (.inl s0')]
      have HV := Lib.hid hv
      clear s0 s0' hn hv
      go_enter Tryz.func15, Tryz.ntmps15
      go_wp2_with fail
      refine (HN.out _).mono ?_
      rintro e w' ⟨rfl, rfl⟩
      go_wp2_with fail
      refine (HS0.out _).mono ?_
      rintro e w1 ⟨rfl, hb1⟩
      have hw1 := two_on hb1
      clear hb1
      go_wp2_with fail
      go_ret
      exact ⟨ret_int HV.out.symm, hw1⟩
  · have tn : (nameErr p.name.toList != 0) = true := by simp [hn]
    have hv : q = nameErr p.name.toList := by rw [← HQ.out, polErr, if_pos hn]
    have HV := Lib.hid hv
    clear hn hv
    go_enter Tryz.func15, Tryz.ntmps15
    go_wp2_with fail
    refine (HN.out _).mono ?_
    rintro e w' ⟨rfl, rfl⟩
    go_wp2_with fail
    go_ret
    exact ⟨ret_int HV.out.symm, by (repeat (first | assumption | exact Below.refl _ _ | apply Below.drew | apply below_drewN | (refine Below.alloc ?_ (by first | exact Nat.le_refl _ | omega | (simp; done) | (simp; omega)) _)))⟩
end Go.Proofs.YtbommoefpekalaaGreatDoor
