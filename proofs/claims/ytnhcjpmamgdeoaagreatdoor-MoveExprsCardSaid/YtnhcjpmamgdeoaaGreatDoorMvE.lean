/-
  THE WALKS: (move.mover).part, at a record.
-/
import Derived.Test.YtnhcjpmamgdeoaaGreatDoorMvD
namespace Go.Proofs.YtnhcjpmamgdeoaaGreatDoor
open Go.RowKit Go.Sort

theorem sort_parts {w : World} {base : Nat} {v : Value} {ms : List NsM} (h : w.ownsRow base 24 1 v ms.length (flatG NsM.cells ms)) (hl : ms.length < 4611686018427387904) (hQ : ∀ y ∈ ms, y.e ≠ []) (hof : ∀ y ∈ ms, NsOff w v.ownBlock y) :
    Calls Tryz.prog 89 #[v, .func (.func 90) #[] #[]] w fun r w' => r = .returned (.tuple #[]) ∧ ∃ ds : List NsM, ds.Perm ms ∧ RiseN (ds.map NsM.e) ∧
      w'.ownsRow base 24 1 v ms.length (flatG NsM.cells ds) ∧ (∀ y ∈ ds, NsOff w' v.ownBlock y) ∧ w.grownBy w' v.ownBlock := by
  refine (sort_lists Tryz.sortL rfl (enters_of Tryz.func90 (by kernel_rfl) rfl) nmCmp h hl (fun y => y.e ≠ []) hQ hof (swo_names fun y : {x : NsM // x.e ≠ []} => (headS y.1.e).toList)
    (fun x y W hx hy gx gy => part1_cmp x y W hx hy gx gy)).mono ?_
  rintro r w' ⟨rfl, ds, h1, h2, h3, h4, h5⟩
  refine ⟨rfl, ds, h1, ?_, h3, h4, h5⟩
  intro i j a b ha hb hij
  rw [List.getElem?_map] at ha hb
  obtain ⟨a', ha', rfl⟩ := Option.map_eq_some_iff.1 ha
  obtain ⟨b', hb', rfl⟩ := Option.map_eq_some_iff.1 hb
  have := h2 i j a' b' ha' hb' hij
  unfold nmCmp at this
  rw [cmp_neg] at this
  exact this
set_option maxRecDepth 100000 in
set_option maxHeartbeats 4000000 in
theorem mpart_rec (m : Mv) (vals : Bool) (k : Nat) (e : List Nd) (x : Nd) (ps : List (List Nd)) (hP : Pcs m vals k e x ps) (h6 : x.op = 6) : PartM m vals (k + 1) e := by
  intro w A c hc hcm hsl
  obtain ⟨i0, hi, hz0, hz1, hz2⟩ := info_parts kid_info
  obtain ⟨j0, hj, hy0, hy1, hy2⟩ := info_parts nd_info
  obtain ⟨o, ho⟩ : ∃ o, movGo m vals (k + 1) e = o := ⟨_, rfl⟩
  have HV : Hid (o = match allSome (ps.map (movGo m vals k)) with | none => none | some qs => if (namesOf qs).Nodup then some (ren m x :: (sortN qs).flatten) else none) := by
    show _ = _
    rw [← ho, hP.he, movGo_any m vals k x hP.ex]
    cases allSome (ps.map (movGo m vals k)) with
    | none => rfl
    | some qs => simp only; rw [if_pos h6]
  rw [ho]
  obtain ⟨n1, n2, n3⟩ := hP.len
  have hne : e ≠ [] := by rw [hP.he]; simp
  obtain ⟨b, of, rfl, hb, hcs⟩ := hsl hne
  obtain ⟨d0, d1, d2, d3⟩ := hcs 0 x (by rw [hP.he]; rfl)
  rw [Nat.zero_mul, Nat.add_zero] at d0 d1 d2 d3
  have hel := hP.hl
  have HP := Lib.hid hP
  have HS := Lib.hid hsl
  have HL1 := Lib.hid n1
  have HNE := Lib.hid n3
  have hps : ps.length ≤ 199 := n2
  have he0 : (0 : Int) < (e.length : Int) := by omega
  have e6 : (x.op == 6) = true := by simp [h6]
  have e5 : (x.op == 5) = false := by simp [h6]
  clear h6
  clear hP hsl n1 n2 n3 ho hne hcs
  go_enter Tryz.func60, Tryz.ntmps60
  go_wp2_with fail
  obtain ⟨W, hW⟩ : ∃ W, w.alloc (.cells #[.int .i64 m.what, .string m.fr, .string m.to_, .bool vals] 78) = W := ⟨_, rfl⟩
  have hbW : RowKit.Below w.heap.size w W := by rw [← hW]; (repeat (first | assumption | exact Below.refl _ _ | apply Below.drew | apply below_drewN | (refine Below.alloc ?_ (by first | exact Nat.le_refl _ | omega | (simp; done) | (simp; omega)) _)))
  have hWz : W.heap.size = w.heap.size + 1 := by rw [← hW]; simp
  have HMB : Hid (MBox m vals w.heap.size W) := by rw [← hW]; exact MBox.new m vals w
  rw [hW]
  go_loopw [5, 6] (fun pv av wr => ∃ (j : Nat) (ms : List NsM) (a : Nat), av = .int .i64 a ∧ j ≤ ps.length ∧ a ≤ e.length ∧ Hid (a = 1 + (ps.take j).flatten.length) ∧ Hid (allSome ((ps.take j).map (movGo m vals k)) = some (ms.map NsM.e)) ∧ ms.length ≤ 199 ∧ Hid (wr.ownsRow W.heap.size 24 1 pv ms.length (flatG NsM.cells ms)) ∧ Hid (∀ y ∈ ms, NsOff wr pv.ownBlock y) ∧ RowKit.Below W.heap.size W wr) (fun _ av _ => e.length - (intOf av).toNat)
  case atStart => exact ⟨0, [], 1, rfl, by omega, by omega, rfl, rfl, by simp, World.ownsRow_nil _ _ _ _, by simp [Hid], RowKit.Below.refl _ _⟩
  case round =>
    obtain ⟨j, ms, a, rfl, hj1, ha, HA, HM, hms, HO, HN, hbr⟩ := hrel
    have hzr := hbr.size
    have hwr : RowKit.Below w.heap.size w wr := hbW.trans (hbr.mono (by omega))
    have hml : Hid (ms.length = j) := by
      show _ = _
      rcases allSome_cases (movGo m vals k) (ps.take j) with h | ⟨qs, h, h', _⟩
      · rw [HM.out] at h; cases h
      · rw [HM.out] at h
        injection h with h
        rw [← h] at h'
        rw [List.length_map, List.length_take] at h'
        omega
    by_cases hlt : j < ps.length
    · obtain ⟨p, hp⟩ : ∃ p, ps[j]? = some p := ⟨_, List.getElem?_eq_getElem hlt⟩
      have hpm := List.mem_of_getElem? hp
      have hpn := List.length_pos_iff.2 (HNE.out p hpm)
      obtain ⟨z, hz⟩ : ∃ z, a + p.length = z := ⟨_, rfl⟩
      have hpz : Hid (piece e a z = p) := by show _ = _; rw [← hz, HA.out, HP.out.he]; exact cut_piece hp
      have hsk : skP (e.drop a) 1 a = some z := by rw [← hz, HA.out, HP.out.he]; exact cut_skip hp (HP.out.ex p hpm)
      have hze : z ≤ e.length := by
        have h1 := flat_step hp
        have h2 := flat_take_le ps (j + 1)
        have := HA.out
        have := HL1.out
        omega
      have hae : a < e.length := by omega
      have HSK := Lib.hid (tree_Skip e (some ⟨b, of, none⟩) c a z wr hel ((HS.out.below hwr).more hwr.size) HP.out.par hsk ha)
      have HZ := Lib.hid hz
      have HPP := Lib.hid hp
      have haz : a < z := by omega
      have HC := Lib.hid (show ∀ W', RowKit.Below w.heap.size w W' → Calls Tryz.prog 60 #[.agg #[.int .i64 m.what, .string m.fr, .string m.to_, .bool vals], .slice (some ⟨b, of + a * 4, none⟩) (z - a) (c - a)] W' (MvPost W' (movGo m vals k p)) from fun W' hW' => by
        have h := HP.out.ih p hpm W' (some ⟨b, of + a * 4, none⟩) (c - a) (by omega) (by omega) (by have := ((HS.out.below hW').more hW'.size).piece a z; rw [hpz.out] at this; exact this)
        have hl : p.length = z - a := by omega
        rw [hl] at h; exact h)
      clear hsk hz hp
      have q : ∀ (W : World), (Instr.slice 24 (.slice (some ⟨b, of, none⟩) e.length c) (some (.int .i64 (a : Int))) (some (.int .i64 (z : Int))) none).run Tryz.prog W = .ok (.slice (some ⟨b, of + a * 4, none⟩) (z - a) (c - a)) W := by
        intro W
        go_simp
        rw [if_pos (show z ≤ c by omega), if_pos (show a ≤ z by omega), if_neg (show ¬ c = a by omega)]
      go_wp2_with fail
      refine HSK.out.mono ?_
      rintro r w1 ⟨rfl, hb1⟩
      obtain ⟨hcc1, hff1⟩ := bcell hb1
      have hw1 : RowKit.Below W.heap.size W w1 := hbr.trans (hb1.mono hzr)
      go_wp2_with fail
      have HM1 := Lib.hid (HMB.out.later hw1 (by omega))
      clear hcc1 hff1
      refine wp_region_hd (S := MBox m vals w.heap.size) [false, false, false, false, false, false, true, true, true, false] (by kernel_rfl) (by kernel_rfl) (fun _ _ _ _ _ h => h) ⟨HM1.out.c0, HM1.out.c1, HM1.out.c2, HM1.out.c3⟩ (fun hW' => ?_)
      simp only [List.zip_cons_cons, List.zip_nil_left]
      (repeat (first | (refine hd_take (v := ?_) (by rfl) ?_ ?_; rotate_left; (focus (intro W hW; obtain ⟨s0, s1, s2, s3⟩ := hW; go_simp; try with_reducible rfl)); simp only [Act.put, List.setIfInBounds_toArray, List.set_cons_zero, List.set_cons_succ]) | (refine hd_skip (by rfl) ?_; simp only [Act.put, List.setIfInBounds_toArray, List.set_cons_zero, List.set_cons_succ])))
      refine hd_call (fun K hK => ?_)
      go_simp
      refine (HC.out w1.drew (hwr.trans (hb1.mono hwr.size)).drew).mono ?_
      rintro r w2 hpost
      cases hq : movGo m vals k p with
      | none =>
        obtain ⟨rfl, hb2⟩ := hpost.2 hq
        clear hpost
        have HQ := Lib.hid hq
        clear hq
        have HO : Hid (o = none) := by show _ = _; rw [HV.out, allSome_none _ ps p (List.mem_of_getElem? HPP.out) HQ.out]
        dsimp only
        clear hK K
        go_wp2_with fail
        rw [HO.out]
        exact ⟨rfl, MvPost.twice ((hwr.trans (hb1.mono hwr.size)).trans ((below_of_drew hb2).mono (by have := hb1.size; have := hwr.size; omega)))⟩
      | some q1 =>
        obtain ⟨A2, c2, rfl, hc2, hcm2, hs2, hb2', hn2⟩ := hpost.1 q1 hq
        clear hpost
        have HQ := Lib.hid hq
        clear hq
        have hb2 := below_of_drew hb2'
        have hv1 := hb1.size
        have hv2 := hb2.size
        have hw2 : RowKit.Below W.heap.size W w2 := hw1.trans (hb2.mono hw1.size)
        refine hK _ _ (HMB.out.later hw2 (by omega)) ?_
        clear hK K
        have hw3 : RowKit.Below W.heap.size W (w2.alloc (.cells #[.slice A2 q1.length c2] 24)) := hw2.alloc (by omega) _
        refine hd_call (fun K hK => ?_)
        go_simp
        refine hK _ _ (HMB.out.later hw3 (by omega)) ?_
        clear hK K
        have HO2 := Lib.hid (own_keep (own_keep (own_keep HO.out hb1) hb2) (by (repeat (first | assumption | exact Below.refl _ _ | apply Below.drew | apply below_drewN | (refine Below.alloc ?_ (by first | exact Nat.le_refl _ | omega | (simp; done) | (simp; omega)) _))) : RowKit.Below w2.heap.size w2 (w2.alloc (.cells #[.slice A2 q1.length c2] 24))))
        refine hd_append_own_at (by rfl) (.tmp 19) (.tmp 26) 104 rfl W.heap.size 24 i0 _ 1 24 Tryz.underlying104 hi hz0 hz1 hz2 rfl (by omega) u5 ms.length (flatG NsM.cells ms) rfl HO2.out ⟨w2.heap.size, 0, none⟩ 1 1 [.slice A2 q1.length c2] rfl rfl (cell_one_new _ _ _) (by simp [Value.oneCell']) (by unfold maxLen; omega) (by omega) (by simp; omega) ?_
        intro v6 w6 hown6 hgrow6 _ hloc6
        have hb6 : RowKit.Below W.heap.size W w6 := hw3.grown hgrow6 (by simp; omega) (fun q hq => (own_lt HO.out hq).1)
        refine ⟨HMB.out.later hb6 (by omega), ?_⟩
        (repeat (first | (refine hd_take (v := ?_) (by rfl) ?_ ?_; rotate_left; (focus (intro W hW; obtain ⟨s0, s1, s2, s3⟩ := hW; go_simp; try with_reducible rfl)); simp only [Act.put, List.setIfInBounds_toArray, List.set_cons_zero, List.set_cons_succ]) | (refine hd_skip (by rfl) ?_; simp only [Act.put, List.setIfInBounds_toArray, List.set_cons_zero, List.set_cons_succ])))
        refine hd_nil ?_
        have hq1 := HP.out.out p (List.mem_of_getElem? HPP.out) q1 HQ.out
        have HN2 : Hid (NsOff w2 u5.ownBlock ⟨A2, c2, q1⟩) := NsGood.fresh (B := w1.heap.size) ⟨hs2, hc2, hcm2⟩ hn2 (fun b hb => Nat.lt_of_lt_of_le (own_lt HO.out hb).2 hv1)
        have HN6 := Lib.hid (collect (x := ⟨A2, c2, q1⟩) (wr := w2) (by (repeat (first | assumption | exact Below.refl _ _ | apply Below.drew | apply below_drewN | (refine Below.alloc ?_ (by first | exact Nat.le_refl _ | omega | (simp; done) | (simp; omega)) _)))) (fun y hy => ((HN.out y hy).later hb1).later hb2) (HN2.out.later (by (repeat (first | assumption | exact Below.refl _ _ | apply Below.drew | apply below_drewN | (refine Below.alloc ?_ (by first | exact Nat.le_refl _ | omega | (simp; done) | (simp; omega)) _))))) hgrow6 hloc6)
        have HM6 : Hid (allSome ((ps.take (j + 1)).map (movGo m vals k)) = some ((ms ++ [(⟨A2, c2, q1⟩ : NsM)]).map NsM.e)) := by
          show _ = _
          rw [allSome_snoc _ ps _ j p q1 HM.out HPP.out HQ.out, List.map_append]; rfl
        have HA6 : Hid (z = 1 + (ps.take (j + 1)).flatten.length) := by show _ = _; rw [flat_step HPP.out, ← HZ.out, HA.out]; omega
        have hm6 : (ms ++ [(⟨A2, c2, q1⟩ : NsM)]).length ≤ 199 := by rw [List.length_append, List.length_singleton]; have := hml.out; omega
        go_wp2_with fail
        exact ⟨⟨j + 1, ms ++ [⟨A2, c2, q1⟩], z, by go_num, by omega, hze, HA6, HM6, hm6, by rw [List.length_append, ns_snoc]; exact hown6, HN6, hb6⟩, by simp [intOf]; omega⟩
    · have hjp : j = ps.length := by omega
      have HM2 : Hid (allSome (ps.map (movGo m vals k)) = some (ms.map NsM.e)) := by
        have := HM.out
        rw [hjp, List.take_of_length_le (Nat.le_refl _)] at this
        exact this
      have hae : ¬ a < e.length := by
        have h1 := HA.out
        have h2 := HL1.out
        rw [hjp, List.take_of_length_le (Nat.le_refl _)] at h1
        omega
      have HPE : Hid (∀ y ∈ ms, y.e ≠ []) := by
        intro y hy
        rcases allSome_cases (movGo m vals k) ps with h | ⟨qs, h, _, h'⟩
        · rw [HM2.out] at h; cases h
        · rw [HM2.out] at h
          injection h with h
          obtain ⟨p, hp, hpq⟩ := h' y.e (by rw [← h]; exact List.mem_map_of_mem hy)
          obtain ⟨⟨b, hb⟩, _⟩ := HP.out.out p hp _ hpq
          obtain ⟨z, r, e, _⟩ := ex_ne hb
          rw [e]; simp
      have hcl : (catN ms).length ≤ 199 := by
        have h1 := allSome_len _ _ _ HM2.out (fun p hp q hq => (HP.out.out p hp q hq).2)
        rw [← nss_map' rfl] at h1
        have := HL1.out
        omega
      obtain ⟨-, Ap, cp, hv, hcp, hcm', hsp⟩ := own_formG ns_ok HO.out
      subst hv
      have hbr' : b < wr.heap.size := by have := hwr.size; omega
      have HD : Hid (NdAt wr b of x) := ⟨(hwr.cell (p := ⟨b, of, none⟩) hb).trans d0, (hwr.cell (p := ⟨b, of + 1, none⟩) hb).trans d1, (hwr.cell (p := ⟨b, of + 2, none⟩) hb).trans d2, (hwr.cell (p := ⟨b, of + 3, none⟩) hb).trans d3⟩
      have f0 := HD.out.c0
      have HSRT := Lib.hid (sort_parts HO.out (by omega) HPE.out HN.out)
      have hbg : ∀ b', (Value.slice Ap ms.length cp).ownBlock = some b' → W.heap.size ≤ b' := fun b' h => (own_lt HO.out h).1
      have HBG := Lib.hid hbg
      clear d0 d1 d2 d3 hsp HO HN HM hml HA hbg
      go_wp2_with fail
      refine HSRT.out.mono ?_
      rintro r w5 ⟨rfl, ds, hp5, hs5, ho5, hn5, hg5⟩
      obtain ⟨-, Ap2, cp2, hv2, hcp2, hcm2', hsp2⟩ := own_formG ns_ok ho5
      injection hv2 with hva hvb hvc
      subst hva hvc
      have hl5 : ds.length = ms.length := hp5.length_eq
      have hb5 : RowKit.Below W.heap.size W w5 := hbr.grown hg5 hzr (fun q hq => HBG.out q hq)
      have hw5 : RowKit.Below w.heap.size w w5 := hbW.trans (hb5.mono (by omega))
      have HN5 := Lib.hid hn5
      have HS5 : Hid (NssAt w5 Ap ds) := ⟨by rw [hl5] at *; exact hsp2, fun y hy => (hn5 y hy).good⟩
      have HR5 := Lib.hid hs5
      have HP5 := Lib.hid hp5
      have HQ5 : Hid (∀ y ∈ ds, y.e ≠ []) := fun y hy => HPE.out y (hp5.mem_iff.1 hy)
      have HL5 := Lib.hid hl5
      have HD5 : Hid (NdAt w5 b of x) := HD.out.keep (B := w.heap.size) hb (fun p hp => (hw5.cell hp).trans (hwr.cell hp).symm)
      have HM5 := Lib.hid (HMB.out.later hb5 (by omega))
      have hz5 : wr.heap.size ≤ w5.heap.size := hg5.size
      have hbw5 : b < w5.heap.size := by omega
      have hlw5 : w.heap.size < w5.heap.size := by have := hb5.size; omega
      clear hsp2 hn5 hs5 hp5 ho5 hg5 HD HSRT f0 hbr' hbr hwr hae hl5
      obtain ⟨wo, hwo⟩ : ∃ wo : World, wo = wr := ⟨_, rfl⟩
      clear hwo
      go_wp2_with fail
      go_loopw [39] (fun kk wr => ∃ i : Nat, kk = .int .i64 i ∧ i ≤ ms.length ∧ Hid (∀ (t : Nat) (y z : NsM), t + 1 < i → ds[t]? = some y → ds[t + 1]? = some z → (headS z.e).toList ≠ (headS y.e).toList) ∧ RowKit.Below w5.heap.size w5 wr) (fun kk _ => ms.length - (intOf kk).toNat)
      case atStart => exact ⟨0, rfl, by omega, fun t y z h => by omega, RowKit.Below.refl _ _⟩
      case round =>
        obtain ⟨i, rfl, hi', HI, hbi⟩ := hrel
        have hzi := hbi.size
        by_cases hlt : i < ms.length
        · cases i with
          | zero =>
            go_wp2_with fail
            go_quiet (fail)
            go_wp2_with fail
            exact ⟨⟨1, by go_num, by omega, fun t y z h => by omega, below_drewN hbi _⟩, by simp [intOf]; omega⟩
          | succ t =>
            obtain ⟨⟨A1, c1, e1⟩, hx1⟩ : ∃ y, ds[t]? = some y := ⟨_, List.getElem?_eq_getElem (by rw [HL5.out]; omega)⟩
            obtain ⟨⟨A2, c2, e2⟩, hx2⟩ : ∃ y, ds[t + 1]? = some y := ⟨_, List.getElem?_eq_getElem (by rw [HL5.out]; omega)⟩
            have hN := HS5.out.later hbi
            obtain ⟨b1, o1, hA1, hb1, hc1⟩ := nsSl_at hN.sl hx1
            obtain ⟨b2, o2, hA2, hb2, hc2⟩ := nsSl_at hN.sl hx2
            rw [hA1] at hA2
            injection hA2 with hA2
            injection hA2 with hA2 hA3
            subst hA2 hA3
            obtain ⟨y1, r1, he1⟩ := List.exists_cons_of_ne_nil (HQ5.out _ (List.mem_of_getElem? hx1))
            obtain ⟨y2, r2, he2⟩ := List.exists_cons_of_ne_nil (HQ5.out _ (List.mem_of_getElem? hx2))
            simp only at he1 he2
            subst he1 he2
            obtain ⟨g1, p1, hg1, hgb1, hgc1⟩ := (hN.good _ (List.mem_of_getElem? hx1)).sl (by simp)
            obtain ⟨g2, p2, hg2, hgb2, hgc2⟩ := (hN.good _ (List.mem_of_getElem? hx2)).sl (by simp)
            simp only at hg1 hg2
            subst hg1 hg2
            have a1 := (hgc1 0 y1 rfl).c2
            have a2 := (hgc2 0 y2 rfl).c2
            rw [Nat.zero_mul, Nat.add_zero] at a1 a2
            simp only [List.length_cons] at hc1 hc2
            have HX1 := Lib.hid hx1
            have HX2 := Lib.hid hx2
            subst hA1
            clear hgc1 hgc2 hN hx1 hx2
            have i1 : (0 : Int) < ((r1.length + 1 : Nat) : Int) := by omega
            have i2 : (0 : Int) < ((r2.length + 1 : Nat) : Int) := by omega
            generalize r1.length + 1 = n1 at *
            generalize r2.length + 1 = n2 at *
            have lt1 : t < ms.length := by omega
            have j1 : IntKind.i64.wrap ((t : Int) + 1 - 1) = (t : Int) := by rw [show (t : Int) + 1 - 1 = t from by omega, IntKind.wrap_i64]; omega
            have ld : decide (0 < t + 1) = true := by simp
            by_cases hqq : y2.s.toList = y1.s.toList
            · have tq : (y2.s.toList == y1.s.toList) = true := by simp [hqq]
              have HOT : Hid (o = none) := by
                show _ = _
                rw [HV.out, HM2.out]
                simp only
                rw [if_neg (rise_twice (HP5.out.map NsM.e) (j := t) (a := y1 :: r1) (b := y2 :: r2) (by rw [List.getElem?_map, HX1.out]; rfl) (by rw [List.getElem?_map, HX2.out]; rfl) (by rw [headS_cons, headS_cons]; exact hqq))]
              clear hqq
              go_wp2_with fail
              go_quiet (fail)
              go_wp2_with fail
              rw [HOT.out]
              exact ⟨rfl, MvPost.twice (below_drewN (hw5.trans (hbi.mono hw5.size)) _)⟩
            · have tq : (y2.s.toList == y1.s.toList) = false := by simp [hqq]
              have HI2 : Hid (∀ (t' : Nat) (y z : NsM), t' + 1 < t + 1 + 1 → ds[t']? = some y → ds[t' + 1]? = some z → (headS z.e).toList ≠ (headS y.e).toList) := by
                intro t' y z h1 h2 h3
                by_cases ht : t' = t
                · subst ht
                  have e1 := HX1.out
                  have e2 := HX2.out
                  rw [h2] at e1
                  rw [h3] at e2
                  injection e1 with e1
                  injection e2 with e2
                  subst e1 e2
                  exact hqq
                · exact HI.out t' y z (by omega) h2 h3
              clear hqq
              go_wp2_with fail
              go_quiet (fail)
              go_wp2_with fail
              exact ⟨⟨t + 1 + 1, by go_num, by omega, HI2, below_drewN hbi _⟩, by simp [intOf]; omega⟩
        · have hin : i = ms.length := by omega
          have HSO := Lib.hid (rise_done (HP5.out.map NsM.e) HR5.out (by
            intro j a b ha hb
            rw [List.getElem?_map] at ha hb
            obtain ⟨a', ha', rfl⟩ := Option.map_eq_some_iff.1 ha
            obtain ⟨b', hb', rfl⟩ := Option.map_eq_some_iff.1 hb
            exact HI.out j a' b' (by have := (List.getElem?_eq_some_iff.1 hb').1; have := HL5.out; omega) ha' hb'))
          have HOV : Hid (o = some (ren m x :: catN ds)) := by
            show _ = _
            rw [HV.out, HM2.out]
            simp only
            rw [if_pos HSO.out.1, ← HSO.out.2, nss_map' rfl]
          have hcl5 : (catN ds).length ≤ 199 := by
            have e1 : (catN ds).length = (catN ms).length := by
              rw [nss_map' (ms := ds) rfl, nss_map' (ms := ms) rfl]
              exact (HP5.out.map NsM.e).flatten.length_eq
            omega
          have hmd : ds.length = ms.length := HL5.out
          have hmd2 : ds.length ≤ 199 := by omega
          rw [← hmd]
          have hwr : RowKit.Below w.heap.size w wr := hw5.trans (hbi.mono hw5.size)
          have hbr' : b < wr.heap.size := by omega
          have hlw : w.heap.size < wr.heap.size := by omega
          have HD : Hid (NdAt wr b of x) := HD5.out.keep (B := w5.heap.size) hbw5 (fun p hp => hbi.cell hp)
          have f0 := HD.out.c0
          have HMr := Lib.hid (HM5.out.later hbi hlw5)
          have HNS : Hid (NssAt wr Ap ds) := HS5.out.later hbi
          have HNM := Lib.hid (fun W => move_named m x W)
          have qi : ∀ W, (Instr.indexAt 24 (.slice (some ⟨b, of, none⟩) e.length c) (.int .i64 0)).run Tryz.prog W = .ok (.pointer (some ⟨b, of, none⟩)) W := by
            intro W
            go_simp
            intro h
            rw [h] at he0
            simp at he0
          have hlt2 : ¬ i < ds.length := by omega
          clear HSO HI HV hmd hin
          go_wp2_with fail
          refine wp_region_hd (S := fun W' => MBox m vals w.heap.size W' ∧ NdAt W' b of x) [false, false, false, false, false, true, true, false] (by kernel_rfl) (by kernel_rfl) (fun _ _ _ _ _ h => h) ⟨⟨HMr.out.c0, HMr.out.c1, HMr.out.c2, HMr.out.c3⟩, ⟨HD.out.c0, HD.out.c1, HD.out.c2, HD.out.c3⟩⟩ (fun hW' => ?_)
          simp only [List.zip_cons_cons, List.zip_nil_left]
          (repeat (first | (refine hd_take (v := ?_) (by rfl) ?_ ?_; rotate_left; (focus (intro W hW; obtain ⟨⟨s0, s1, s2, s3⟩, ⟨s4, s5, s6, s7⟩⟩ := hW; go_simp; try with_reducible rfl)); simp only [Act.put, List.setIfInBounds_toArray, List.set_cons_zero, List.set_cons_succ]) | (refine hd_skip (by rfl) ?_; simp only [Act.put, List.setIfInBounds_toArray, List.set_cons_zero, List.set_cons_succ])))
          refine hd_call (fun K hK => ?_)
          go_simp
          refine (HNM.out _).mono ?_
          rintro r w2 ⟨rfl, hb2'⟩
          have hb2 := below_of_drew hb2'
          refine hK _ _ ⟨HMr.out.later hb2 hlw, ⟨(hb2.cell (p := ⟨b, of, none⟩) hbr').trans HD.out.c0, (hb2.cell (p := ⟨b, of + 1, none⟩) hbr').trans HD.out.c1, (hb2.cell (p := ⟨b, of + 2, none⟩) hbr').trans HD.out.c2, (hb2.cell (p := ⟨b, of + 3, none⟩) hbr').trans HD.out.c3⟩⟩ ?_
          clear hK K
          have hb3 : RowKit.Below w.heap.size w w2 := hwr.trans (hb2.mono hwr.size)
          have hz3 := hb3.size
          refine hd_call (fun K hK => ?_)
          go_simp
          refine hK _ _ ⟨(HMr.out.later hb2 hlw).later (RowKit.Below.alloc (RowKit.Below.refl w2.heap.size w2) (Nat.le_refl _) _) (by have := hb2.size; omega), HD.out.keep (B := wr.heap.size) hbr' (fun p hp => ((RowKit.Below.alloc (RowKit.Below.refl w2.heap.size w2) (Nat.le_refl _) _).cell (by have := hb2.size; omega)).trans (hb2.cell hp))⟩ ?_
          clear hK K
          (repeat (first | (refine hd_take (v := ?_) (by rfl) ?_ ?_; rotate_left; (focus (intro W hW; obtain ⟨⟨s0, s1, s2, s3⟩, ⟨s4, s5, s6, s7⟩⟩ := hW; go_simp; try with_reducible rfl)); simp only [Act.put, List.setIfInBounds_toArray, List.set_cons_zero, List.set_cons_succ]) | (refine hd_skip (by rfl) ?_; simp only [Act.put, List.setIfInBounds_toArray, List.set_cons_zero, List.set_cons_succ])))
          refine hd_nil ?_
          have HOL := Lib.hid (World.ownsRow_lit (base := w.heap.size) (e := 40) (size := 4) w2 #[.int .i64 (ren m x).op, .int .i64 (ren m x).n, .string (ren m x).s, .string (ren m x).t] 1 (by omega) (by decide) (by simp))
          have hb4 : RowKit.Below w2.heap.size w2 (w2.alloc (.cells #[.int .i64 (ren m x).op, .int .i64 (ren m x).n, .string (ren m x).s, .string (ren m x).t] 40)) := by (repeat (first | assumption | exact Below.refl _ _ | apply Below.drew | apply below_drewN | (refine Below.alloc ?_ (by first | exact Nat.le_refl _ | omega | (simp; done) | (simp; omega)) _)))
          have HN4 := Lib.hid ((HNS.out.later hb2).later hb4)
          have hb5 : RowKit.Below w.heap.size w (w2.alloc (.cells #[.int .i64 (ren m x).op, .int .i64 (ren m x).n, .string (ren m x).s, .string (ren m x).t] 40)) := hb3.trans (hb4.mono hz3)
          generalize w2.alloc (.cells #[.int .i64 (ren m x).op, .int .i64 (ren m x).n, .string (ren m x).s, .string (ren m x).t] 40) = w3 at *
          clear hb4
          go_wp2_with fail
          refine (concat_nodes ds Ap cp w3 HN4.out HQ5.out (by omega) (by omega)).mono ?_
          rintro r w4 ⟨A4, c4, rfl, h41, h42, h43, h44, h45⟩
          have hb6 : RowKit.Below w.heap.size w w4 := hb5.trans (h44.mono hb5.size)
          have HO4 := Lib.hid (own_keep HOL.out h44)
          by_cases hcn : catN ds = []
          · have HCN := Lib.hid hcn
            rw [hcn] at h41 h43
            try rw [hcn]
            clear hcn h43 h44 h45 h41
            cases A4 with
            | none =>
              go_wp2_with (at_builtin; refine wpList_append_zero rfl (.tmp 88) (.tmp 90) 24 rfl w.heap.size 40 j0 4 Tryz.underlying24 hj _ 1 _ rfl HO4.out c4 rfl ?_)
              go_ret
              rw [HOV.out, HCN.out]
              exact MvPost.own (n := 1) HO4.out hb6
            | some ad =>
              go_wp2_with (at_builtin; refine wpList_append_own _ rfl (.tmp 88) (.tmp 90) 24 rfl w.heap.size 40 j0 _ 4 48 Tryz.underlying24 hj hy0 hy1 hy2 rfl (by omega) _ 1 _ rfl HO4.out ad 0 c4 [] rfl rfl (by simp) (by simp) (by unfold maxLen; omega) (by omega) (by have := hb6.size; omega) ?_; intro v7 w7 hown7 hgrow7 _)
              have hb7 : RowKit.Below w.heap.size w w7 := hb6.grown hgrow7 hb6.size (fun q hq => (HO4.out.lt q hq).1)
              go_wp2_with fail
              have HO7 := Lib.hid hown7
              clear hown7
              go_ret
              rw [HOV.out, HCN.out]
              exact MvPost.own (n := 1) (by have := HO7.out; rw [List.append_nil] at this; exact this) hb7
          · obtain ⟨b4, o4, rfl, hb4, hs4⟩ := h43 hcn
            have HS4 := Lib.hid (fun j u hu => NdSl.flat h43 j u hu)
            clear h43 h44 h45 hs4 hcn
            go_wp2_with (at_builtin; refine wpList_append_own _ rfl (.tmp 88) (.tmp 90) 24 rfl w.heap.size 40 j0 _ 4 48 Tryz.underlying24 hj hy0 hy1 hy2 rfl (by omega) _ 1 _ rfl HO4.out ⟨b4, o4, none⟩ (catN ds).length c4 (flat (catN ds)) rfl (flat_len _) HS4.out (flat_one_cell _) (by unfold maxLen; omega) (by omega) (by have := hb6.size; omega) ?_; intro v7 w7 hown7 hgrow7 _)
            have hb7 : RowKit.Below w.heap.size w w7 := hb6.grown hgrow7 hb6.size (fun q hq => (HO4.out.lt q hq).1)
            go_wp2_with fail
            have HO7 := Lib.hid hown7
            clear hown7
            go_ret
            rw [HOV.out]
            refine MvPost.own (n := 1 + (catN ds).length) ?_ hb7
            have := HO7.out
            simpa [flat, Nd.cells] using this
end Go.Proofs.YtnhcjpmamgdeoaaGreatDoor
