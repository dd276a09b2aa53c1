/-
  THE WALKS: (move.mover).part, at a set of a value; values moved.
-/
import Derived.Test.YtnhcjpmamgdeoaaGreatDoorMvL
import Derived.Test.YtnhcjpmamgdeoaaGreatDoorMvR
namespace Go.Proofs.YtnhcjpmamgdeoaaGreatDoor
open Go.RowKit Go.Sort

set_option maxRecDepth 100000 in
set_option maxHeartbeats 4000000 in
theorem mpart_set (m : Mv) (hm : mvErr m = 0) (vals : Bool) (hvals : vals = true) (k : Nat) (e : List Nd) (x : Nd) (ps : List (List Nd)) (hP : Pcs m vals k e x ps) (hek : e.length ≤ k + 1) (h5 : x.op = 5) (hvx : ∀ p ∈ ps, Vx p) : PartM m vals (k + 1) e := by
  intro w A c hc hcm hsl
  obtain ⟨i0, hi, hz0, hz1, hz2⟩ := info_parts kid_info
  obtain ⟨j0, hj, hy0, hy1, hy2⟩ := info_parts nd_info
  obtain ⟨o, ho⟩ : ∃ o, movGo m vals (k + 1) e = o := ⟨_, rfl⟩
  have h6 : ¬ x.op = 6 := by omega
  have HV : Hid (o = match allSome (ps.map (movGo m vals k)) with | none => none | some qs => some (setOfP qs).1) := by
    show _ = _
    rw [← ho, hP.he, movGo_any m vals k x hP.ex]
    cases allSome (ps.map (movGo m vals k)) with
    | none => rfl
    | some qs =>
      simp only
      rw [if_neg h6, if_pos ⟨h5, hvals⟩]
  have HVX : Hid (∀ p ∈ ps, ∀ q, movGo m vals k p = some q → Vx q) := fun p hp q hq => by
    have hle := mem_len hp
    have h1 := hP.len.1
    have h2 := hP.hl
    rw [hvals] at hq
    rcases vx_mov hm (hvx p hp) (by omega) k (by omega) with h | ⟨ys, h, h', _⟩
    · rw [h] at hq; cases hq
    · rw [h] at hq; injection hq with hq; subst hq; exact h'
  rw [ho]
  obtain ⟨n1, n2, n3⟩ := hP.len
  have hne : e ≠ [] := by rw [hP.he]; simp
  obtain ⟨b, of, rfl, hb, hcs⟩ := hsl hne
  obtain ⟨d0, d1, d2, d3⟩ := hcs 0 x (by rw [hP.he]; rfl)
  rw [Nat.zero_mul, Nat.add_zero] at d0 d1 d2 d3
  have hel := hP.hl
  have HP := Lib.hid hP
  have HS := Lib.hid hsl
  have HL1 := Lib.hid n1
  have HNE := Lib.hid n3
  have hps : ps.length ≤ 199 := n2
  have he0 : (0 : Int) < (e.length : Int) := by omega
  have e6 : (x.op == 6) = false := by simp [h6]
  have e5 : (x.op == 5) = true := by simp [h5]
  have HVS := Lib.hid hvals
  clear h6 h5 hvx hek hvals
  clear hP hsl n1 n2 n3 ho hne hcs
  go_enter Tryz.func60, Tryz.ntmps60
  go_wp2_with fail
  obtain ⟨W, hW⟩ : ∃ W, w.alloc (.cells #[.int .i64 m.what, .string m.fr, .string m.to_, .bool vals] 78) = W := ⟨_, rfl⟩
  have hbW : RowKit.Below w.heap.size w W := by rw [← hW]; (repeat (first | assumption | exact Below.refl _ _ | apply Below.drew | apply below_drewN | (refine Below.alloc ?_ (by first | exact Nat.le_refl _ | omega | (simp; done) | (simp; omega)) _)))
  have hWz : W.heap.size = w.heap.size + 1 := by rw [← hW]; simp
  have HMB : Hid (MBox m vals w.heap.size W) := by rw [← hW]; exact MBox.new m vals w
  rw [hW]
  go_loopw [5, 6] (fun pv av wr => ∃ (j : Nat) (ms : List NsM) (a : Nat), av = .int .i64 a ∧ j ≤ ps.length ∧ a ≤ e.length ∧ Hid (a = 1 + (ps.take j).flatten.length) ∧ Hid (allSome ((ps.take j).map (movGo m vals k)) = some (ms.map NsM.e)) ∧ ms.length ≤ 199 ∧ Hid (wr.ownsRow W.heap.size 24 1 pv ms.length (flatG NsM.cells ms)) ∧ Hid (∀ y ∈ ms, NsOff wr pv.ownBlock y) ∧ RowKit.Below W.heap.size W wr) (fun _ av _ => e.length - (intOf av).toNat)
  case atStart => exact ⟨0, [], 1, rfl, by omega, by omega, rfl, rfl, by simp, World.ownsRow_nil _ _ _ _, by simp [Hid], RowKit.Below.refl _ _⟩
  case round =>
    obtain ⟨j, ms, a, rfl, hj1, ha, HA, HM, hms, HO, HN, hbr⟩ := hrel
    have hzr := hbr.size
    have hwr : RowKit.Below w.heap.size w wr := hbW.trans (hbr.mono (by omega))
    have hml : Hid (ms.length = j) := by
      show _ = _
      rcases allSome_cases (movGo m vals k) (ps.take j) with h | ⟨qs, h, h', _⟩
      · rw [HM.out] at h; cases h
      · rw [HM.out] at h
        injection h with h
        rw [← h] at h'
        rw [List.length_map, List.length_take] at h'
        omega
    by_cases hlt : j < ps.length
    · obtain ⟨p, hp⟩ : ∃ p, ps[j]? = some p := ⟨_, List.getElem?_eq_getElem hlt⟩
      have hpm := List.mem_of_getElem? hp
      have hpn := List.length_pos_iff.2 (HNE.out p hpm)
      obtain ⟨z, hz⟩ : ∃ z, a + p.length = z := ⟨_, rfl⟩
      have hpz : Hid (piece e a z = p) := by show _ = _; rw [← hz, HA.out, HP.out.he]; exact cut_piece hp
      have hsk : skP (e.drop a) 1 a = some z := by rw [← hz, HA.out, HP.out.he]; exact cut_skip hp (HP.out.ex p hpm)
      have hze : z ≤ e.length := by
        have h1 := flat_step hp
        have h2 := flat_take_le ps (j + 1)
        have := HA.out
        have := HL1.out
        omega
      have hae : a < e.length := by omega
      have HSK := Lib.hid (tree_Skip e (some ⟨b, of, none⟩) c a z wr hel ((HS.out.below hwr).more hwr.size) HP.out.par hsk ha)
      have HZ := Lib.hid hz
      have HPP := Lib.hid hp
      have haz : a < z := by omega
      have HC := Lib.hid (show ∀ W', RowKit.Below w.heap.size w W' → Calls Tryz.prog 60 #[.agg #[.int .i64 m.what, .string m.fr, .string m.to_, .bool vals], .slice (some ⟨b, of + a * 4, none⟩) (z - a) (c - a)] W' (MvPost W' (movGo m vals k p)) from fun W' hW' => by
        have h := HP.out.ih p hpm W' (some ⟨b, of + a * 4, none⟩) (c - a) (by omega) (by omega) (by have := ((HS.out.below hW').more hW'.size).piece a z; rw [hpz.out] at this; exact this)
        have hl : p.length = z - a := by omega
        rw [hl] at h; exact h)
      clear hsk hz hp
      have q : ∀ (W : World), (Instr.slice 24 (.slice (some ⟨b, of, none⟩) e.length c) (some (.int .i64 (a : Int))) (some (.int .i64 (z : Int))) none).run Tryz.prog W = .ok (.slice (some ⟨b, of + a * 4, none⟩) (z - a) (c - a)) W := by
        intro W
        go_simp
        rw [if_pos (show z ≤ c by omega), if_pos (show a ≤ z by omega), if_neg (show ¬ c = a by omega)]
      go_wp2_with fail
      refine HSK.out.mono ?_
      rintro r w1 ⟨rfl, hb1⟩
      obtain ⟨hcc1, hff1⟩ := bcell hb1
      have hw1 : RowKit.Below W.heap.size W w1 := hbr.trans (hb1.mono hzr)
      go_wp2_with fail
      have HM1 := Lib.hid (HMB.out.later hw1 (by omega))
      clear hcc1 hff1
      refine wp_region_hd (S := MBox m vals w.heap.size) [false, false, false, false, false, false, true, true, true, false] (by kernel_rfl) (by kernel_rfl) (fun _ _ _ _ _ h => h) ⟨HM1.out.c0, HM1.out.c1, HM1.out.c2, HM1.out.c3⟩ (fun hW' => ?_)
      simp only [List.zip_cons_cons, List.zip_nil_left]
      (repeat (first | (refine hd_take (v := ?_) (by rfl) ?_ ?_; rotate_left; (focus (intro W hW; obtain ⟨s0, s1, s2, s3⟩ := hW; go_simp; try with_reducible rfl)); simp only [Act.put, List.setIfInBounds_toArray, List.set_cons_zero, List.set_cons_succ]) | (refine hd_skip (by rfl) ?_; simp only [Act.put, List.setIfInBounds_toArray, List.set_cons_zero, List.set_cons_succ])))
      refine hd_call (fun K hK => ?_)
      go_simp
      refine (HC.out w1.drew (hwr.trans (hb1.mono hwr.size)).drew).mono ?_
      rintro r w2 hpost
      cases hq : movGo m vals k p with
      | none =>
        obtain ⟨rfl, hb2⟩ := hpost.2 hq
        clear hpost
        have HQ := Lib.hid hq
        clear hq
        have HO : Hid (o = none) := by show _ = _; rw [HV.out, allSome_none _ ps p (List.mem_of_getElem? HPP.out) HQ.out]
        dsimp only
        clear hK K
        go_wp2_with fail
        rw [HO.out]
        exact ⟨rfl, MvPost.twice ((hwr.trans (hb1.mono hwr.size)).trans ((below_of_drew hb2).mono (by have := hb1.size; have := hwr.size; omega)))⟩
      | some q1 =>
        obtain ⟨A2, c2, rfl, hc2, hcm2, hs2, hb2', hn2⟩ := hpost.1 q1 hq
        clear hpost
        have HQ := Lib.hid hq
        clear hq
        have hb2 := below_of_drew hb2'
        have hv1 := hb1.size
        have hv2 := hb2.size
        have hw2 : RowKit.Below W.heap.size W w2 := hw1.trans (hb2.mono hw1.size)
        refine hK _ _ (HMB.out.later hw2 (by omega)) ?_
        clear hK K
        have hw3 : RowKit.Below W.heap.size W (w2.alloc (.cells #[.slice A2 q1.length c2] 24)) := hw2.alloc (by omega) _
        refine hd_call (fun K hK => ?_)
        go_simp
        refine hK _ _ (HMB.out.later hw3 (by omega)) ?_
        clear hK K
        have HO2 := Lib.hid (own_keep (own_keep (own_keep HO.out hb1) hb2) (by (repeat (first | assumption | exact Below.refl _ _ | apply Below.drew | apply below_drewN | (refine Below.alloc ?_ (by first | exact Nat.le_refl _ | omega | (simp; done) | (simp; omega)) _))) : RowKit.Below w2.heap.size w2 (w2.alloc (.cells #[.slice A2 q1.length c2] 24))))
        refine hd_append_own_at (by rfl) (.tmp 19) (.tmp 26) 104 rfl W.heap.size 24 i0 _ 1 24 Tryz.underlying104 hi hz0 hz1 hz2 rfl (by omega) u5 ms.length (flatG NsM.cells ms) rfl HO2.out ⟨w2.heap.size, 0, none⟩ 1 1 [.slice A2 q1.length c2] rfl rfl (cell_one_new _ _ _) (by simp [Value.oneCell']) (by unfold maxLen; omega) (by omega) (by simp; omega) ?_
        intro v6 w6 hown6 hgrow6 _ hloc6
        have hb6 : RowKit.Below W.heap.size W w6 := hw3.grown hgrow6 (by simp; omega) (fun q hq => (own_lt HO.out hq).1)
        refine ⟨HMB.out.later hb6 (by omega), ?_⟩
        (repeat (first | (refine hd_take (v := ?_) (by rfl) ?_ ?_; rotate_left; (focus (intro W hW; obtain ⟨s0, s1, s2, s3⟩ := hW; go_simp; try with_reducible rfl)); simp only [Act.put, List.setIfInBounds_toArray, List.set_cons_zero, List.set_cons_succ]) | (refine hd_skip (by rfl) ?_; simp only [Act.put, List.setIfInBounds_toArray, List.set_cons_zero, List.set_cons_succ])))
        refine hd_nil ?_
        have hq1 := HP.out.out p (List.mem_of_getElem? HPP.out) q1 HQ.out
        have HN2 : Hid (NsOff w2 u5.ownBlock ⟨A2, c2, q1⟩) := NsGood.fresh (B := w1.heap.size) ⟨hs2, hc2, hcm2⟩ hn2 (fun b hb => Nat.lt_of_lt_of_le (own_lt HO.out hb).2 hv1)
        have HN6 := Lib.hid (collect (x := ⟨A2, c2, q1⟩) (wr := w2) (by (repeat (first | assumption | exact Below.refl _ _ | apply Below.drew | apply below_drewN | (refine Below.alloc ?_ (by first | exact Nat.le_refl _ | omega | (simp; done) | (simp; omega)) _)))) (fun y hy => ((HN.out y hy).later hb1).later hb2) (HN2.out.later (by (repeat (first | assumption | exact Below.refl _ _ | apply Below.drew | apply below_drewN | (refine Below.alloc ?_ (by first | exact Nat.le_refl _ | omega | (simp; done) | (simp; omega)) _))))) hgrow6 hloc6)
        have HM6 : Hid (allSome ((ps.take (j + 1)).map (movGo m vals k)) = some ((ms ++ [(⟨A2, c2, q1⟩ : NsM)]).map NsM.e)) := by
          show _ = _
          rw [allSome_snoc _ ps _ j p q1 HM.out HPP.out HQ.out, List.map_append]; rfl
        have HA6 : Hid (z = 1 + (ps.take (j + 1)).flatten.length) := by show _ = _; rw [flat_step HPP.out, ← HZ.out, HA.out]; omega
        have hm6 : (ms ++ [(⟨A2, c2, q1⟩ : NsM)]).length ≤ 199 := by rw [List.length_append, List.length_singleton]; have := hml.out; omega
        go_wp2_with fail
        exact ⟨⟨j + 1, ms ++ [⟨A2, c2, q1⟩], z, by go_num, by omega, hze, HA6, HM6, hm6, by rw [List.length_append, ns_snoc]; exact hown6, HN6, hb6⟩, by simp [intOf]; omega⟩
    · have hjp : j = ps.length := by omega
      have HM2 : Hid (allSome (ps.map (movGo m vals k)) = some (ms.map NsM.e)) := by
        have := HM.out
        rw [hjp, List.take_of_length_le (Nat.le_refl _)] at this
        exact this
      have hae : ¬ a < e.length := by
        have h1 := HA.out
        have h2 := HL1.out
        rw [hjp, List.take_of_length_le (Nat.le_refl _)] at h1
        omega
      have HOV : Hid (o = some (setOfP (ms.map NsM.e)).1) := by
        show _ = _
        rw [HV.out, HM2.out]
      have HPE : Hid (∀ y ∈ ms, Vx y.e) := by
        intro y hy
        rcases allSome_cases (movGo m vals k) ps with h | ⟨qs, h, _, h'⟩
        · rw [HM2.out] at h; cases h
        · rw [HM2.out] at h
          injection h with h
          obtain ⟨p, hp, hpq⟩ := h' y.e (by rw [← h]; exact List.mem_map_of_mem hy)
          exact HVX.out p hp _ hpq
      have hcl : (catN ms).length ≤ 199 := by
        have h1 := allSome_len _ _ _ HM2.out (fun p hp q hq => (HP.out.out p hp q hq).2)
        rw [← nss_map' rfl] at h1
        have := HL1.out
        omega
      have HSV : Hid (setV (ms.map NsM.e) = ((setOfP (ms.map NsM.e)).1, 0)) := by
        show _ = _
        have hq : ∀ q ∈ ms.map NsM.e, Vx q := fun q hq => by obtain ⟨y, hy, rfl⟩ := List.mem_map.1 hq; exact HPE.out y hy
        have hl2 : (ms.map NsM.e).flatten.length + 1 ≤ 200 := by rw [← nss_map' rfl]; omega
        obtain ⟨h1, h2, h3⟩ := setOf_ok hq hl2
        rw [h1]
        unfold setV
        rw [if_neg (by omega)]
      obtain ⟨-, Ap, cp, hv, hcp, hcm', hsp⟩ := own_formG ns_ok HO.out
      subst hv
      have HNS : Hid (NssAt wr Ap ms) := ⟨hsp, fun y hy => (HN.out y hy).good⟩
      have HNV : Hid (∀ y ∈ ms, valErr y.e = 0) := fun y hy => (val_iff y.e).2 ⟨by
        have h1 : y.e.length ≤ (ms.map NsM.e).flatten.length := mem_len (List.mem_map_of_mem hy)
        rw [← nss_map' rfl] at h1
        omega, HPE.out y hy⟩
      have HNK : Hid (∀ y ∈ ms, NdOk y.e) := fun y hy => ex_nok (vx_ex (HPE.out y hy))
      have f0 := (hwr.cell (p := ⟨b, of, none⟩) hb).trans d0
      have hbr' : b < wr.heap.size := by have := hwr.size; omega
      have HMr := Lib.hid (HMB.out.later hbr (by omega))
      have f3 := HMr.out.c3
      rw [HVS.out] at f3
      clear d0 d1 d2 d3 hsp HO HN HM HV hml HA
      have hlw : w.heap.size < wr.heap.size := by omega
      go_wp2_with fail
      refine (val_SetOf ms Ap cp wr HNS.out HNV.out HNK.out (by omega)).mono ?_
      rintro r w2 ⟨A2, c2, rfl, h21, h22, h23, h24, h25⟩
      have H23 := Lib.hid h23
      have H21 := Lib.hid h21
      have H25 := Lib.hid h25
      clear h23 h21 h25
      go_wp2_with fail
      go_ret
      rw [HOV.out]
      have h1 := H21.out
      have h3 := H23.out
      rw [HSV.out] at h1 h3 ⊢
      exact MvPost.done ⟨A2, c2, rfl, h1, h22, h3, hwr.trans (h24.mono hwr.size), fun b o h => by have := H25.out b o h; omega⟩
end Go.Proofs.YtnhcjpmamgdeoaaGreatDoor
