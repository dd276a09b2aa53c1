/-
  THE WALKS: (move.mover).part, at a node that is neither a record nor a set of a value.
-/
import Derived.Test.YtnhcjpmamgdeoaaGreatDoorMvC
import Derived.Test.YtnhcjpmamgdeoaaGreatDoorMvA
import Derived.Test.YtnhcjpmamgdeoaaGreatDoorMvQ
import Derived.Test.YtnhcjpmamgdeoaaGreatDoorTree4s
import Derived.Test.YtnhcjpmamgdeoaaGreatDoorCat
import Derived.Test.YtnhcjpmamgdeoaaGreatDoorRegHd
import Derived.StillTailTactics
namespace Go.Proofs.YtnhcjpmamgdeoaaGreatDoor
open Go.RowKit Go.Sort

def twiceV : List PanicEntry := [{ v := .iface 109 (.agg #[]), recovered := false }]
def MvPost (w : World) (o : Option (List Nd)) (r : Ending) (w' : World) : Prop :=
  (∀ ys, o = some ys → NdsNew w r w' ys) ∧ (o = none → r = .panicked twiceV ∧ RowKit.Below w.heap.size w w')
theorem MvPost.twice {w w' : World} (h : RowKit.Below w.heap.size w w') : MvPost w none (.panicked twiceV) w' := ⟨fun ys h => by (cases h), fun _ => ⟨rfl, h⟩⟩
theorem MvPost.done {w w' : World} {r : Ending} {ys : List Nd} (h : NdsNew w r w' ys) : MvPost w (some ys) r w' := ⟨fun zs e => by (injection e with e; subst e; exact h), fun e => by (cases e)⟩
theorem MvPost.own {w w7 : World} {v : Value} {n : Nat} {ys : List Nd} (h : w7.ownsRow w.heap.size 40 4 v n (flat ys)) (hb : RowKit.Below w.heap.size w w7) : MvPost w (some ys) (.returned v) w7 := by
  obtain ⟨A, c, hv, h1, h2, h3, h4⟩ := own_form_new h
  have hn : n = ys.length := by have := h.1; rw [flat_len] at this; omega
  subst hn
  subst hv
  exact .done ⟨A, c, rfl, h1, h2, h3, hb, h4⟩
def PartM (m : Mv) (vals : Bool) (k : Nat) (xs : List Nd) : Prop := ∀ (w : World) (A : Option Addr) (c : Nat), xs.length ≤ c → c ≤ 9223372036854775807 → NdSl w w.heap.size A xs →
  Calls Tryz.prog 60 #[.agg #[.int .i64 m.what, .string m.fr, .string m.to_, .bool vals], .slice A xs.length c] w (MvPost w (movGo m vals k xs))
theorem kid_info : (Tryz.prog.info? 24).map (fun i => (i.zero, i.size, i.bytes)) = some (some (.slice none 0 0), 1, 24) := by kernel_rfl
/-- What 'part' knows of the pieces. -/
structure Pcs (m : Mv) (vals : Bool) (k : Nat) (e : List Nd) (x : Nd) (ps : List (List Nd)) : Prop where
  he : e = x :: ps.flatten
  hl : e.length ≤ 200
  ex : ∀ p ∈ ps, ∃ b, Ex (.one b) p
  par : ∀ y ∈ e, 0 ≤ ndParts y ∧ ndParts y ≤ 200
  ih : ∀ p ∈ ps, PartM m vals k p
  out : ∀ p ∈ ps, ∀ q, movGo m vals k p = some q → (∃ b, Ex (.one b) q) ∧ q.length ≤ p.length
theorem Pcs.len {m : Mv} {vals : Bool} {k : Nat} {e : List Nd} {x : Nd} {ps : List (List Nd)} (h : Pcs m vals k e x ps) : e.length = 1 + ps.flatten.length ∧ ps.length ≤ 199 ∧ ∀ p ∈ ps, p ≠ [] := by
  have hne : ∀ p ∈ ps, p ≠ [] := fun p hp => by obtain ⟨b, hb⟩ := h.ex p hp; obtain ⟨y, r, e, _⟩ := ex_ne hb; rw [e]; simp
  have h1 : e.length = 1 + ps.flatten.length := by rw [h.he, List.length_cons]; omega
  refine ⟨h1, ?_, hne⟩
  have : ps.length ≤ ps.flatten.length := by
    clear h1 h
    induction ps with
    | nil => simp
    | cons p r ih =>
      have h2 := ih fun q hq => hne q (by simp [hq])
      have h3 := List.length_pos_iff.2 (hne p (by simp))
      rw [List.flatten_cons, List.length_append, List.length_cons]; omega
  have := h.hl
  omega
/-- The mover, boxed. -/
structure MBox (m : Mv) (vals : Bool) (b : Nat) (W : World) : Prop where
  c0 : W.cell? ⟨b, 0, none⟩ = some (.int .i64 m.what)
  c1 : W.cell? ⟨b, 1, none⟩ = some (.string m.fr)
  c2 : W.cell? ⟨b, 2, none⟩ = some (.string m.to_)
  c3 : W.cell? ⟨b, 3, none⟩ = some (.bool vals)
theorem MBox.later {m : Mv} {vals : Bool} {b B : Nat} {W W' : World} (h : MBox m vals b W) (hb : RowKit.Below B W W') (hl : b < B) : MBox m vals b W' :=
  ⟨(hb.cell (p := ⟨b, 0, none⟩) hl).trans h.c0, (hb.cell (p := ⟨b, 1, none⟩) hl).trans h.c1, (hb.cell (p := ⟨b, 2, none⟩) hl).trans h.c2, (hb.cell (p := ⟨b, 3, none⟩) hl).trans h.c3⟩
theorem MBox.new (m : Mv) (vals : Bool) (w : World) : MBox m vals w.heap.size (w.alloc (.cells #[.int .i64 m.what, .string m.fr, .string m.to_, .bool vals] 78)) := by
  have h := Blk.new w 78 #[.int .i64 m.what, .string m.fr, .string m.to_, .bool vals]
  exact ⟨h.cell 0, h.cell 1, h.cell 2, h.cell 3⟩
set_option maxRecDepth 100000 in
set_option maxHeartbeats 4000000 in
theorem part_oth (m : Mv) (vals : Bool) (k : Nat) (e : List Nd) (x : Nd) (ps : List (List Nd)) (hP : Pcs m vals k e x ps) (h6 : ¬ x.op = 6) (h5 : x.op = 5 → vals = false) : PartM m vals (k + 1) e := by
  intro w A c hc hcm hsl
  obtain ⟨i0, hi, hz0, hz1, hz2⟩ := info_parts kid_info
  obtain ⟨j0, hj, hy0, hy1, hy2⟩ := info_parts nd_info
  obtain ⟨o, ho⟩ : ∃ o, movGo m vals (k + 1) e = o := ⟨_, rfl⟩
  have HV : Hid (o = match allSome (ps.map (movGo m vals k)) with | none => none | some qs => some (ren m x :: qs.flatten)) := by
    show _ = _
    rw [← ho, hP.he, movGo_any m vals k x hP.ex]
    cases allSome (ps.map (movGo m vals k)) with
    | none => rfl
    | some qs =>
      simp only
      rw [if_neg h6, if_neg]
      rintro ⟨h, h'⟩
      rw [h5 h] at h'; cases h'
  rw [ho]
  obtain ⟨n1, n2, n3⟩ := hP.len
  have hne : e ≠ [] := by rw [hP.he]; simp
  obtain ⟨b, of, rfl, hb, hcs⟩ := hsl hne
  obtain ⟨d0, d1, d2, d3⟩ := hcs 0 x (by rw [hP.he]; rfl)
  rw [Nat.zero_mul, Nat.add_zero] at d0 d1 d2 d3
  have hel := hP.hl
  have HP := Lib.hid hP
  have HS := Lib.hid hsl
  have HL1 := Lib.hid n1
  have HNE := Lib.hid n3
  have hps : ps.length ≤ 199 := n2
  have he0 : (0 : Int) < (e.length : Int) := by omega
  have e6 : (x.op == 6) = false := by simp [h6]
  clear hP hsl n1 n2 n3 ho hne hcs
  go_enter Tryz.func60, Tryz.ntmps60
  go_wp2_with fail
  obtain ⟨W, hW⟩ : ∃ W, w.alloc (.cells #[.int .i64 m.what, .string m.fr, .string m.to_, .bool vals] 78) = W := ⟨_, rfl⟩
  have hbW : RowKit.Below w.heap.size w W := by rw [← hW]; (repeat (first | assumption | exact Below.refl _ _ | apply Below.drew | apply below_drewN | (refine Below.alloc ?_ (by first | exact Nat.le_refl _ | omega | (simp; done) | (simp; omega)) _)))
  have hWz : W.heap.size = w.heap.size + 1 := by rw [← hW]; simp
  have HMB : Hid (MBox m vals w.heap.size W) := by rw [← hW]; exact MBox.new m vals w
  rw [hW]
  go_loopw [5, 6] (fun pv av wr => ∃ (j : Nat) (ms : List NsM) (a : Nat), av = .int .i64 a ∧ j ≤ ps.length ∧ a ≤ e.length ∧ Hid (a = 1 + (ps.take j).flatten.length) ∧ Hid (allSome ((ps.take j).map (movGo m vals k)) = some (ms.map NsM.e)) ∧ ms.length ≤ 199 ∧ Hid (wr.ownsRow W.heap.size 24 1 pv ms.length (flatG NsM.cells ms)) ∧ Hid (∀ y ∈ ms, NsOff wr pv.ownBlock y) ∧ RowKit.Below W.heap.size W wr) (fun _ av _ => e.length - (intOf av).toNat)
  case atStart => exact ⟨0, [], 1, rfl, by omega, by omega, rfl, rfl, by simp, World.ownsRow_nil _ _ _ _, by simp [Hid], RowKit.Below.refl _ _⟩
  case round =>
    obtain ⟨j, ms, a, rfl, hj1, ha, HA, HM, hms, HO, HN, hbr⟩ := hrel
    have hzr := hbr.size
    have hwr : RowKit.Below w.heap.size w wr := hbW.trans (hbr.mono (by omega))
    have hml : Hid (ms.length = j) := by
      show _ = _
      rcases allSome_cases (movGo m vals k) (ps.take j) with h | ⟨qs, h, h', _⟩
      · rw [HM.out] at h; cases h
      · rw [HM.out] at h
        injection h with h
        rw [← h] at h'
        rw [List.length_map, List.length_take] at h'
        omega
    by_cases hlt : j < ps.length
    · obtain ⟨p, hp⟩ : ∃ p, ps[j]? = some p := ⟨_, List.getElem?_eq_getElem hlt⟩
      have hpm := List.mem_of_getElem? hp
      have hpn := List.length_pos_iff.2 (HNE.out p hpm)
      obtain ⟨z, hz⟩ : ∃ z, a + p.length = z := ⟨_, rfl⟩
      have hpz : Hid (piece e a z = p) := by show _ = _; rw [← hz, HA.out, HP.out.he]; exact cut_piece hp
      have hsk : skP (e.drop a) 1 a = some z := by rw [← hz, HA.out, HP.out.he]; exact cut_skip hp (HP.out.ex p hpm)
      have hze : z ≤ e.length := by
        have h1 := flat_step hp
        have h2 := flat_take_le ps (j + 1)
        have := HA.out
        have := HL1.out
        omega
      have hae : a < e.length := by omega
      have HSK := Lib.hid (tree_Skip e (some ⟨b, of, none⟩) c a z wr hel ((HS.out.below hwr).more hwr.size) HP.out.par hsk ha)
      have HZ := Lib.hid hz
      have HPP := Lib.hid hp
      have haz : a < z := by omega
      have HC := Lib.hid (show ∀ W', RowKit.Below w.heap.size w W' → Calls Tryz.prog 60 #[.agg #[.int .i64 m.what, .string m.fr, .string m.to_, .bool vals], .slice (some ⟨b, of + a * 4, none⟩) (z - a) (c - a)] W' (MvPost W' (movGo m vals k p)) from fun W' hW' => by
        have h := HP.out.ih p hpm W' (some ⟨b, of + a * 4, none⟩) (c - a) (by omega) (by omega) (by have := ((HS.out.below hW').more hW'.size).piece a z; rw [hpz.out] at this; exact this)
        have hl : p.length = z - a := by omega
        rw [hl] at h; exact h)
      clear hsk hz hp
      have q : ∀ (W : World), (Instr.slice 24 (.slice (some ⟨b, of, none⟩) e.length c) (some (.int .i64 (a : Int))) (some (.int .i64 (z : Int))) none).run Tryz.prog W = .ok (.slice (some ⟨b, of + a * 4, none⟩) (z - a) (c - a)) W := by
        intro W
        go_simp
        rw [if_pos (show z ≤ c by omega), if_pos (show a ≤ z by omega), if_neg (show ¬ c = a by omega)]
      go_wp2_with fail
      refine HSK.out.mono ?_
      rintro r w1 ⟨rfl, hb1⟩
      obtain ⟨hcc1, hff1⟩ := bcell hb1
      have hw1 : RowKit.Below W.heap.size W w1 := hbr.trans (hb1.mono hzr)
      go_wp2_with fail
      have HM1 := Lib.hid (HMB.out.later hw1 (by omega))
      clear hcc1 hff1
      refine wp_region_hd (S := MBox m vals w.heap.size) [false, false, false, false, false, false, true, true, true, false] (by kernel_rfl) (by kernel_rfl) (fun _ _ _ _ _ h => h) ⟨HM1.out.c0, HM1.out.c1, HM1.out.c2, HM1.out.c3⟩ (fun hW' => ?_)
      simp only [List.zip_cons_cons, List.zip_nil_left]
      (repeat (first | (refine hd_take (v := ?_) (by rfl) ?_ ?_; rotate_left; (focus (intro W hW; obtain ⟨s0, s1, s2, s3⟩ := hW; go_simp; try with_reducible rfl)); simp only [Act.put, List.setIfInBounds_toArray, List.set_cons_zero, List.set_cons_succ]) | (refine hd_skip (by rfl) ?_; simp only [Act.put, List.setIfInBounds_toArray, List.set_cons_zero, List.set_cons_succ])))
      refine hd_call (fun K hK => ?_)
      go_simp
      refine (HC.out w1.drew (hwr.trans (hb1.mono hwr.size)).drew).mono ?_
      rintro r w2 hpost
      cases hq : movGo m vals k p with
      | none =>
        obtain ⟨rfl, hb2⟩ := hpost.2 hq
        clear hpost
        have HQ := Lib.hid hq
        clear hq
        have HO : Hid (o = none) := by show _ = _; rw [HV.out, allSome_none _ ps p (List.mem_of_getElem? HPP.out) HQ.out]
        dsimp only
        clear hK K
        go_wp2_with fail
        rw [HO.out]
        exact ⟨rfl, MvPost.twice ((hwr.trans (hb1.mono hwr.size)).trans ((below_of_drew hb2).mono (by have := hb1.size; have := hwr.size; omega)))⟩
      | some q1 =>
        obtain ⟨A2, c2, rfl, hc2, hcm2, hs2, hb2', hn2⟩ := hpost.1 q1 hq
        clear hpost
        have HQ := Lib.hid hq
        clear hq
        have hb2 := below_of_drew hb2'
        have hv1 := hb1.size
        have hv2 := hb2.size
        have hw2 : RowKit.Below W.heap.size W w2 := hw1.trans (hb2.mono hw1.size)
        refine hK _ _ (HMB.out.later hw2 (by omega)) ?_
        clear hK K
        have hw3 : RowKit.Below W.heap.size W (w2.alloc (.cells #[.slice A2 q1.length c2] 24)) := hw2.alloc (by omega) _
        refine hd_call (fun K hK => ?_)
        go_simp
        refine hK _ _ (HMB.out.later hw3 (by omega)) ?_
        clear hK K
        have HO2 := Lib.hid (own_keep (own_keep (own_keep HO.out hb1) hb2) (by (repeat (first | assumption | exact Below.refl _ _ | apply Below.drew | apply below_drewN | (refine Below.alloc ?_ (by first | exact Nat.le_refl _ | omega | (simp; done) | (simp; omega)) _))) : RowKit.Below w2.heap.size w2 (w2.alloc (.cells #[.slice A2 q1.length c2] 24))))
        refine hd_append_own_at (by rfl) (.tmp 19) (.tmp 26) 104 rfl W.heap.size 24 i0 _ 1 24 Tryz.underlying104 hi hz0 hz1 hz2 rfl (by omega) u5 ms.length (flatG NsM.cells ms) rfl HO2.out ⟨w2.heap.size, 0, none⟩ 1 1 [.slice A2 q1.length c2] rfl rfl (cell_one_new _ _ _) (by simp [Value.oneCell']) (by unfold maxLen; omega) (by omega) (by simp; omega) ?_
        intro v6 w6 hown6 hgrow6 _ hloc6
        have hb6 : RowKit.Below W.heap.size W w6 := hw3.grown hgrow6 (by simp; omega) (fun q hq => (own_lt HO.out hq).1)
        refine ⟨HMB.out.later hb6 (by omega), ?_⟩
        (repeat (first | (refine hd_take (v := ?_) (by rfl) ?_ ?_; rotate_left; (focus (intro W hW; obtain ⟨s0, s1, s2, s3⟩ := hW; go_simp; try with_reducible rfl)); simp only [Act.put, List.setIfInBounds_toArray, List.set_cons_zero, List.set_cons_succ]) | (refine hd_skip (by rfl) ?_; simp only [Act.put, List.setIfInBounds_toArray, List.set_cons_zero, List.set_cons_succ])))
        refine hd_nil ?_
        have hq1 := HP.out.out p (List.mem_of_getElem? HPP.out) q1 HQ.out
        have HN2 : Hid (NsOff w2 u5.ownBlock ⟨A2, c2, q1⟩) := NsGood.fresh (B := w1.heap.size) ⟨hs2, hc2, hcm2⟩ hn2 (fun b hb => Nat.lt_of_lt_of_le (own_lt HO.out hb).2 hv1)
        have HN6 := Lib.hid (collect (x := ⟨A2, c2, q1⟩) (wr := w2) (by (repeat (first | assumption | exact Below.refl _ _ | apply Below.drew | apply below_drewN | (refine Below.alloc ?_ (by first | exact Nat.le_refl _ | omega | (simp; done) | (simp; omega)) _)))) (fun y hy => ((HN.out y hy).later hb1).later hb2) (HN2.out.later (by (repeat (first | assumption | exact Below.refl _ _ | apply Below.drew | apply below_drewN | (refine Below.alloc ?_ (by first | exact Nat.le_refl _ | omega | (simp; done) | (simp; omega)) _))))) hgrow6 hloc6)
        have HM6 : Hid (allSome ((ps.take (j + 1)).map (movGo m vals k)) = some ((ms ++ [(⟨A2, c2, q1⟩ : NsM)]).map NsM.e)) := by
          show _ = _
          rw [allSome_snoc _ ps _ j p q1 HM.out HPP.out HQ.out, List.map_append]; rfl
        have HA6 : Hid (z = 1 + (ps.take (j + 1)).flatten.length) := by show _ = _; rw [flat_step HPP.out, ← HZ.out, HA.out]; omega
        have hm6 : (ms ++ [(⟨A2, c2, q1⟩ : NsM)]).length ≤ 199 := by rw [List.length_append, List.length_singleton]; have := hml.out; omega
        go_wp2_with fail
        exact ⟨⟨j + 1, ms ++ [⟨A2, c2, q1⟩], z, by go_num, by omega, hze, HA6, HM6, hm6, by rw [List.length_append, ns_snoc]; exact hown6, HN6, hb6⟩, by simp [intOf]; omega⟩
    · have hjp : j = ps.length := by omega
      have HM2 : Hid (allSome (ps.map (movGo m vals k)) = some (ms.map NsM.e)) := by
        have := HM.out
        rw [hjp, List.take_of_length_le (Nat.le_refl _)] at this
        exact this
      have hae : ¬ a < e.length := by
        have h1 := HA.out
        have h2 := HL1.out
        rw [hjp, List.take_of_length_le (Nat.le_refl _)] at h1
        omega
      have HOV : Hid (o = some (ren m x :: catN ms)) := by
        show _ = _
        rw [HV.out, HM2.out, nss_map' rfl]
      have HPE : Hid (∀ y ∈ ms, y.e ≠ []) := by
        intro y hy
        rcases allSome_cases (movGo m vals k) ps with h | ⟨qs, h, _, h'⟩
        · rw [HM2.out] at h; cases h
        · rw [HM2.out] at h
          injection h with h
          obtain ⟨p, hp, hpq⟩ := h' y.e (by rw [← h]; exact List.mem_map_of_mem hy)
          obtain ⟨⟨b, hb⟩, _⟩ := HP.out.out p hp _ hpq
          obtain ⟨z, r, e, _⟩ := ex_ne hb
          rw [e]; simp
      have hcl : (catN ms).length ≤ 199 := by
        have h1 := allSome_len _ _ _ HM2.out (fun p hp q hq => (HP.out.out p hp q hq).2)
        rw [← nss_map' rfl] at h1
        have := HL1.out
        omega
      obtain ⟨-, Ap, cp, hv, hcp, hcm', hsp⟩ := own_formG ns_ok HO.out
      subst hv
      have HNS : Hid (NssAt wr Ap ms) := ⟨hsp, fun y hy => (HN.out y hy).good⟩
      have hbr' : b < wr.heap.size := by have := hwr.size; omega
      have HD : Hid (NdAt wr b of x) := ⟨(hwr.cell (p := ⟨b, of, none⟩) hb).trans d0, (hwr.cell (p := ⟨b, of + 1, none⟩) hb).trans d1, (hwr.cell (p := ⟨b, of + 2, none⟩) hb).trans d2, (hwr.cell (p := ⟨b, of + 3, none⟩) hb).trans d3⟩
      have f0 := HD.out.c0
      have HMr := Lib.hid (HMB.out.later hbr (by omega))
      have f3 := HMr.out.c3
      clear d0 d1 d2 d3 hsp HO HN HM HV hml HA
      have hlw : w.heap.size < wr.heap.size := by omega
      have HNM := Lib.hid (fun W => move_named m x W)
      have qi : ∀ W, (Instr.indexAt 24 (.slice (some ⟨b, of, none⟩) e.length c) (.int .i64 0)).run Tryz.prog W = .ok (.pointer (some ⟨b, of, none⟩)) W := by
        intro W
        go_simp
        intro h
        rw [h] at he0
        simp at he0
      have hor : ((x.op == 5) = true ∧ vals = false) ∨ (x.op == 5) = false := by
        by_cases h : x.op = 5
        · exact .inl ⟨by simp [h], h5 h⟩
        · exact .inr (by simp [h])
      clear h5
      rcases hor with ⟨e5, hvf⟩ | e5
      · rw [hvf] at f3
        have HVF := Lib.hid hvf
        clear hvf
        go_wp2_with fail
        refine wp_region_hd (S := fun W' => MBox m vals w.heap.size W' ∧ NdAt W' b of x) [false, false, false, false, false, true, true, false] (by kernel_rfl) (by kernel_rfl) (fun _ _ _ _ _ h => h) ⟨⟨HMr.out.c0, HMr.out.c1, HMr.out.c2, HMr.out.c3⟩, ⟨HD.out.c0, HD.out.c1, HD.out.c2, HD.out.c3⟩⟩ (fun hW' => ?_)
        simp only [List.zip_cons_cons, List.zip_nil_left]
        (repeat (first | (refine hd_take (v := ?_) (by rfl) ?_ ?_; rotate_left; (focus (intro W hW; obtain ⟨⟨s0, s1, s2, s3⟩, ⟨s4, s5, s6, s7⟩⟩ := hW; go_simp; try with_reducible rfl)); simp only [Act.put, List.setIfInBounds_toArray, List.set_cons_zero, List.set_cons_succ]) | (refine hd_skip (by rfl) ?_; simp only [Act.put, List.setIfInBounds_toArray, List.set_cons_zero, List.set_cons_succ])))
        refine hd_call (fun K hK => ?_)
        go_simp
        refine (HNM.out _).mono ?_
        rintro r w2 ⟨rfl, hb2'⟩
        have hb2 := below_of_drew hb2'
        refine hK _ _ ⟨HMr.out.later hb2 hlw, ⟨(hb2.cell (p := ⟨b, of, none⟩) hbr').trans HD.out.c0, (hb2.cell (p := ⟨b, of + 1, none⟩) hbr').trans HD.out.c1, (hb2.cell (p := ⟨b, of + 2, none⟩) hbr').trans HD.out.c2, (hb2.cell (p := ⟨b, of + 3, none⟩) hbr').trans HD.out.c3⟩⟩ ?_
        clear hK K
        have hb3 : RowKit.Below w.heap.size w w2 := hwr.trans (hb2.mono hwr.size)
        have hz3 := hb3.size
        refine hd_call (fun K hK => ?_)
        go_simp
        refine hK _ _ ⟨(HMr.out.later hb2 hlw).later (RowKit.Below.alloc (RowKit.Below.refl w2.heap.size w2) (Nat.le_refl _) _) (by have := hb2.size; omega), HD.out.keep (B := wr.heap.size) hbr' (fun p hp => ((RowKit.Below.alloc (RowKit.Below.refl w2.heap.size w2) (Nat.le_refl _) _).cell (by have := hb2.size; omega)).trans (hb2.cell hp))⟩ ?_
        clear hK K
        (repeat (first | (refine hd_take (v := ?_) (by rfl) ?_ ?_; rotate_left; (focus (intro W hW; obtain ⟨⟨s0, s1, s2, s3⟩, ⟨s4, s5, s6, s7⟩⟩ := hW; go_simp; try with_reducible rfl)); simp only [Act.put, List.setIfInBounds_toArray, List.set_cons_zero, List.set_cons_succ]) | (refine hd_skip (by rfl) ?_; simp only [Act.put, List.setIfInBounds_toArray, List.set_cons_zero, List.set_cons_succ])))
        refine hd_nil ?_
        have HOL := Lib.hid (World.ownsRow_lit (base := w.heap.size) (e := 40) (size := 4) w2 #[.int .i64 (ren m x).op, .int .i64 (ren m x).n, .string (ren m x).s, .string (ren m x).t] 1 (by omega) (by decide) (by simp))
        have hb4 : RowKit.Below w2.heap.size w2 (w2.alloc (.cells #[.int .i64 (ren m x).op, .int .i64 (ren m x).n, .string (ren m x).s, .string (ren m x).t] 40)) := by (repeat (first | assumption | exact Below.refl _ _ | apply Below.drew | apply below_drewN | (refine Below.alloc ?_ (by first | exact Nat.le_refl _ | omega | (simp; done) | (simp; omega)) _)))
        have HN4 := Lib.hid ((HNS.out.later hb2).later hb4)
        have hb5 : RowKit.Below w.heap.size w (w2.alloc (.cells #[.int .i64 (ren m x).op, .int .i64 (ren m x).n, .string (ren m x).s, .string (ren m x).t] 40)) := hb3.trans (hb4.mono hz3)
        generalize w2.alloc (.cells #[.int .i64 (ren m x).op, .int .i64 (ren m x).n, .string (ren m x).s, .string (ren m x).t] 40) = w3 at *
        clear hb4
        go_wp2_with fail
        refine (concat_nodes ms Ap cp w3 HN4.out HPE.out (by omega) (by omega)).mono ?_
        rintro r w4 ⟨A4, c4, rfl, h41, h42, h43, h44, h45⟩
        have hb6 : RowKit.Below w.heap.size w w4 := hb5.trans (h44.mono hb5.size)
        have HO4 := Lib.hid (own_keep HOL.out h44)
        by_cases hcn : catN ms = []
        · have HCN := Lib.hid hcn
          rw [hcn] at h41 h43
          try rw [hcn]
          clear hcn h43 h44 h45 h41
          cases A4 with
          | none =>
            go_wp2_with (at_builtin; refine wpList_append_zero rfl (.tmp 88) (.tmp 90) 24 rfl w.heap.size 40 j0 4 Tryz.underlying24 hj _ 1 _ rfl HO4.out c4 rfl ?_)
            go_ret
            rw [HOV.out, HCN.out]
            exact MvPost.own (n := 1) HO4.out hb6
          | some ad =>
            go_wp2_with (at_builtin; refine wpList_append_own _ rfl (.tmp 88) (.tmp 90) 24 rfl w.heap.size 40 j0 _ 4 48 Tryz.underlying24 hj hy0 hy1 hy2 rfl (by omega) _ 1 _ rfl HO4.out ad 0 c4 [] rfl rfl (by simp) (by simp) (by unfold maxLen; omega) (by omega) (by have := hb6.size; omega) ?_; intro v7 w7 hown7 hgrow7 _)
            have hb7 : RowKit.Below w.heap.size w w7 := hb6.grown hgrow7 hb6.size (fun q hq => (HO4.out.lt q hq).1)
            go_wp2_with fail
            have HO7 := Lib.hid hown7
            clear hown7
            go_ret
            rw [HOV.out, HCN.out]
            exact MvPost.own (n := 1) (by have := HO7.out; rw [List.append_nil] at this; exact this) hb7
        · obtain ⟨b4, o4, rfl, hb4, hs4⟩ := h43 hcn
          have HS4 := Lib.hid (fun j u hu => NdSl.flat h43 j u hu)
          clear h43 h44 h45 hs4 hcn
          go_wp2_with (at_builtin; refine wpList_append_own _ rfl (.tmp 88) (.tmp 90) 24 rfl w.heap.size 40 j0 _ 4 48 Tryz.underlying24 hj hy0 hy1 hy2 rfl (by omega) _ 1 _ rfl HO4.out ⟨b4, o4, none⟩ (catN ms).length c4 (flat (catN ms)) rfl (flat_len _) HS4.out (flat_one_cell _) (by unfold maxLen; omega) (by omega) (by have := hb6.size; omega) ?_; intro v7 w7 hown7 hgrow7 _)
          have hb7 : RowKit.Below w.heap.size w w7 := hb6.grown hgrow7 hb6.size (fun q hq => (HO4.out.lt q hq).1)
          go_wp2_with fail
          have HO7 := Lib.hid hown7
          clear hown7
          go_ret
          rw [HOV.out]
          refine MvPost.own (n := 1 + (catN ms).length) ?_ hb7
          have := HO7.out
          simpa [flat, Nd.cells] using this
      ·
        go_wp2_with fail
        refine wp_region_hd (S := fun W' => MBox m vals w.heap.size W' ∧ NdAt W' b of x) [false, false, false, false, false, true, true, false] (by kernel_rfl) (by kernel_rfl) (fun _ _ _ _ _ h => h) ⟨⟨HMr.out.c0, HMr.out.c1, HMr.out.c2, HMr.out.c3⟩, ⟨HD.out.c0, HD.out.c1, HD.out.c2, HD.out.c3⟩⟩ (fun hW' => ?_)
        simp only [List.zip_cons_cons, List.zip_nil_left]
        (repeat (first | (refine hd_take (v := ?_) (by rfl) ?_ ?_; rotate_left; (focus (intro W hW; obtain ⟨⟨s0, s1, s2, s3⟩, ⟨s4, s5, s6, s7⟩⟩ := hW; go_simp; try with_reducible rfl)); simp only [Act.put, List.setIfInBounds_toArray, List.set_cons_zero, List.set_cons_succ]) | (refine hd_skip (by rfl) ?_; simp only [Act.put, List.setIfInBounds_toArray, List.set_cons_zero, List.set_cons_succ])))
        refine hd_call (fun K hK => ?_)
        go_simp
        refine (HNM.out _).mono ?_
        rintro r w2 ⟨rfl, hb2'⟩
        have hb2 := below_of_drew hb2'
        refine hK _ _ ⟨HMr.out.later hb2 hlw, ⟨(hb2.cell (p := ⟨b, of, none⟩) hbr').trans HD.out.c0, (hb2.cell (p := ⟨b, of + 1, none⟩) hbr').trans HD.out.c1, (hb2.cell (p := ⟨b, of + 2, none⟩) hbr').trans HD.out.c2, (hb2.cell (p := ⟨b, of + 3, none⟩) hbr').trans HD.out.c3⟩⟩ ?_
        clear hK K
        have hb3 : RowKit.Below w.heap.size w w2 := hwr.trans (hb2.mono hwr.size)
        have hz3 := hb3.size
        refine hd_call (fun K hK => ?_)
        go_simp
        refine hK _ _ ⟨(HMr.out.later hb2 hlw).later (RowKit.Below.alloc (RowKit.Below.refl w2.heap.size w2) (Nat.le_refl _) _) (by have := hb2.size; omega), HD.out.keep (B := wr.heap.size) hbr' (fun p hp => ((RowKit.Below.alloc (RowKit.Below.refl w2.heap.size w2) (Nat.le_refl _) _).cell (by have := hb2.size; omega)).trans (hb2.cell hp))⟩ ?_
        clear hK K
        (repeat (first | (refine hd_take (v := ?_) (by rfl) ?_ ?_; rotate_left; (focus (intro W hW; obtain ⟨⟨s0, s1, s2, s3⟩, ⟨s4, s5, s6, s7⟩⟩ := hW; go_simp; try with_reducible rfl)); simp only [Act.put, List.setIfInBounds_toArray, List.set_cons_zero, List.set_cons_succ]) | (refine hd_skip (by rfl) ?_; simp only [Act.put, List.setIfInBounds_toArray, List.set_cons_zero, List.set_cons_succ])))
        refine hd_nil ?_
        have HOL := Lib.hid (World.ownsRow_lit (base := w.heap.size) (e := 40) (size := 4) w2 #[.int .i64 (ren m x).op, .int .i64 (ren m x).n, .string (ren m x).s, .string (ren m x).t] 1 (by omega) (by decide) (by simp))
        have hb4 : RowKit.Below w2.heap.size w2 (w2.alloc (.cells #[.int .i64 (ren m x).op, .int .i64 (ren m x).n, .string (ren m x).s, .string (ren m x).t] 40)) := by (repeat (first | assumption | exact Below.refl _ _ | apply Below.drew | apply below_drewN | (refine Below.alloc ?_ (by first | exact Nat.le_refl _ | omega | (simp; done) | (simp; omega)) _)))
        have HN4 := Lib.hid ((HNS.out.later hb2).later hb4)
        have hb5 : RowKit.Below w.heap.size w (w2.alloc (.cells #[.int .i64 (ren m x).op, .int .i64 (ren m x).n, .string (ren m x).s, .string (ren m x).t] 40)) := hb3.trans (hb4.mono hz3)
        generalize w2.alloc (.cells #[.int .i64 (ren m x).op, .int .i64 (ren m x).n, .string (ren m x).s, .string (ren m x).t] 40) = w3 at *
        clear hb4
        go_wp2_with fail
        refine (concat_nodes ms Ap cp w3 HN4.out HPE.out (by omega) (by omega)).mono ?_
        rintro r w4 ⟨A4, c4, rfl, h41, h42, h43, h44, h45⟩
        have hb6 : RowKit.Below w.heap.size w w4 := hb5.trans (h44.mono hb5.size)
        have HO4 := Lib.hid (own_keep HOL.out h44)
        by_cases hcn : catN ms = []
        · have HCN := Lib.hid hcn
          rw [hcn] at h41 h43
          try rw [hcn]
          clear hcn h43 h44 h45 h41
          cases A4 with
          | none =>
            go_wp2_with (at_builtin; refine wpList_append_zero rfl (.tmp 88) (.tmp 90) 24 rfl w.heap.size 40 j0 4 Tryz.underlying24 hj _ 1 _ rfl HO4.out c4 rfl ?_)
            go_ret
            rw [HOV.out, HCN.out]
            exact MvPost.own (n := 1) HO4.out hb6
          | some ad =>
            go_wp2_with (at_builtin; refine wpList_append_own _ rfl (.tmp 88) (.tmp 90) 24 rfl w.heap.size 40 j0 _ 4 48 Tryz.underlying24 hj hy0 hy1 hy2 rfl (by omega) _ 1 _ rfl HO4.out ad 0 c4 [] rfl rfl (by simp) (by simp) (by unfold maxLen; omega) (by omega) (by have := hb6.size; omega) ?_; intro v7 w7 hown7 hgrow7 _)
            have hb7 : RowKit.Below w.heap.size w w7 := hb6.grown hgrow7 hb6.size (fun q hq => (HO4.out.lt q hq).1)
            go_wp2_with fail
            have HO7 := Lib.hid hown7
            clear hown7
            go_ret
            rw [HOV.out, HCN.out]
            exact MvPost.own (n := 1) (by have := HO7.out; rw [List.append_nil] at this; exact this) hb7
        · obtain ⟨b4, o4, rfl, hb4, hs4⟩ := h43 hcn
          have HS4 := Lib.hid (fun j u hu => NdSl.flat h43 j u hu)
          clear h43 h44 h45 hs4 hcn
          go_wp2_with (at_builtin; refine wpList_append_own _ rfl (.tmp 88) (.tmp 90) 24 rfl w.heap.size 40 j0 _ 4 48 Tryz.underlying24 hj hy0 hy1 hy2 rfl (by omega) _ 1 _ rfl HO4.out ⟨b4, o4, none⟩ (catN ms).length c4 (flat (catN ms)) rfl (flat_len _) HS4.out (flat_one_cell _) (by unfold maxLen; omega) (by omega) (by have := hb6.size; omega) ?_; intro v7 w7 hown7 hgrow7 _)
          have hb7 : RowKit.Below w.heap.size w w7 := hb6.grown hgrow7 hb6.size (fun q hq => (HO4.out.lt q hq).1)
          go_wp2_with fail
          have HO7 := Lib.hid hown7
          clear hown7
          go_ret
          rw [HOV.out]
          refine MvPost.own (n := 1 + (catN ms).length) ?_ hb7
          have := HO7.out
          simpa [flat, Nd.cells] using this
end Go.Proofs.YtnhcjpmamgdeoaaGreatDoor
