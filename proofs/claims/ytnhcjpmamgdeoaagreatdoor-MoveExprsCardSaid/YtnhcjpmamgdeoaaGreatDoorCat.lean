/-
  THE WALK: slices.Concat of lists of nodes.
-/
import Derived.Test.YtnhcjpmamgdeoaaGreatDoorShelf2
import Derived.Test.YtnhcjpmamgdeoaaGreatDoorOff
import Derived.Lib.Hide
import Derived.BigQuiet
namespace Go.Proofs.YtnhcjpmamgdeoaaGreatDoor
open Go.RowKit Go.Sort Go.Shelf

theorem grow_nil (n : Nat) (w : World) (h0 : 0 < n) (hn : n ≤ 1000) : Calls Tryz.prog 114 #[.slice none 0 0, .int .i64 n] w fun r w' =>
    ∃ v, r = .returned v ∧ w'.ownsRow w.heap.size 40 4 v 0 [] ∧ RowKit.Below w.heap.size w w' := by
  obtain ⟨j0, hj, hy0, hy1, hy2⟩ := info_parts nd_info
  refine (Any8.slices_Grow_grow Tryz.growN j0 _ hj hy0 (by omega) none 0 0 n [] w (Nat.le_refl _) (by omega) (by rw [hy2]; omega) (by omega) (by simp) (fun _ => rfl) (fun a h => by cases h)).mono ?_
  rintro r w' ⟨rfl, rfl⟩
  refine ⟨_, rfl, ?_, by (repeat (first | assumption | exact Below.refl _ _ | apply Below.drew | apply below_drewN | (refine Below.alloc ?_ (by first | exact Nat.le_refl _ | omega | (simp; done) | (simp; omega)) _)))⟩
  have hG : n ≤ grownCap w (0 + n) 0 40 := by have := grownCap_ge w (0 + n) 0 40; omega
  have hG2 := grownCap_le_maxLen w (0 + n) 0 40 (by unfold maxLen; omega)
  have hz : ∀ k, (Builtin.zeroCells (Value.cells (.agg #[.int .i64 0, .int .i64 0, .string ⟨#[]⟩, .string ⟨#[]⟩])) k).size = k * 4 := fun k => by unfold Builtin.zeroCells; simp [Value.cells]
  exact World.ownsRow_made w.drew _ _ (Nat.le_refl _) hG2 (by rw [Array.size_append, Array.size_append, hz, hz]; simp only [List.size_toArray, List.length_nil]; have hG' : n ≤ grownCap w (0 + n) 0 (Tryz.growN_ren.t 25) := hG; omega)
theorem grow_zero (w : World) : Calls Tryz.prog 114 #[.slice none 0 0, .int .i64 0] w fun r w' =>
    ∃ v, r = .returned v ∧ w'.ownsRow w.heap.size 40 4 v 0 [] ∧ RowKit.Below w.heap.size w w' := by
  refine (Any8.slices_Grow_room Tryz.growN none 0 0 0 w (Nat.le_refl _) (by omega) (by omega) (Nat.le_refl _)).mono ?_
  rintro r w' ⟨rfl, rfl⟩
  exact ⟨_, rfl, World.ownsRow_nil _ _ _ _, RowKit.Below.refl _ _⟩
theorem grow_any (n : Nat) (w : World) (hn : n ≤ 1000) : Calls Tryz.prog 114 #[.slice none 0 0, .int .i64 n] w fun r w' =>
    ∃ v, r = .returned v ∧ w'.ownsRow w.heap.size 40 4 v 0 [] ∧ RowKit.Below w.heap.size w w' := by
  by_cases h : n = 0
  · subst h; exact grow_zero w
  · exact grow_nil n w (by omega) hn
set_option maxRecDepth 100000 in
set_option maxHeartbeats 3200000 in
theorem concat_nodes (ps : List NsM) (A : Option Addr) (c : Nat) (w : World) (hs : NssAt w A ps) (hne : ∀ p ∈ ps, p.e ≠ []) (hl : (catN ps).length ≤ 1000) (hp : ps.length ≤ 1000) :
    Calls Tryz.prog 94 #[.slice A ps.length c] w fun r w' => NdsNew w r w' (catN ps) := by
  obtain ⟨j0, hj, hy0, hy1, hy2⟩ := info_parts nd_info
  have HS := Lib.hid hs
  have HN := Lib.hid hne
  clear hs hne
  go_enter Tryz.func94, Tryz.ntmps94
  go_wp2_with fail
  go_loop [11, 3] (fun kk sz => ∃ (k : Nat) (s : Nat), kk = .int .i64 k ∧ sz = .int .i64 s ∧ k ≤ ps.length ∧ Hid (s = (catN (ps.take k)).length)) (fun kk _ => ps.length - (intOf kk).toNat)
  case atStart => exact ⟨0, 0, rfl, rfl, by omega, rfl⟩
  case round =>
    obtain ⟨k, s, rfl, rfl, hk, HSZ⟩ := hrel
    have hsz : s ≤ 1000 := by have := catN_le (ps := ps) k; have := HSZ.out; omega
    by_cases hlt : k < ps.length
    · obtain ⟨⟨Ap, cp, e⟩, hx⟩ : ∃ p, ps[k]? = some p := ⟨_, List.getElem?_eq_getElem hlt⟩
      have HST := Lib.hid (catN_step hx)
      have h2 := catN_le (ps := ps) (k + 1)
      have hel : s + e.length ≤ 1000 := by
        have h3 := congrArg List.length HST.out
        rw [List.length_append] at h3
        have h4 := HSZ.out
        simp only at h3
        omega
      obtain ⟨b, o, rfl, hb, hc0⟩ := nsSl_at HS.out.sl hx
      simp only at hc0
      have HS2 : Hid (s + e.length = (catN (ps.take (k + 1))).length) := by
        show _ = _
        rw [HST.out, List.length_append, HSZ.out]
      clear hx h2
      go_wp2_with fail
      exact ⟨⟨k + 1, s + e.length, by go_num, by go_num, by omega, HS2⟩, by simp [intOf]; omega⟩
    · have HE : Hid (s = (catN ps).length) := by
        have := HSZ.out
        rw [List.take_of_length_le (by omega)] at this
        exact this
      go_wp2_with fail
      refine (grow_any s w hsz).mono ?_
      rintro r w1 ⟨v, rfl, hown, hb1⟩
      have HO := Lib.hid hown
      have HS1 := Lib.hid (HS.out.later hb1)
      have hz1 := hb1.size
      clear hown
      go_wp2_with fail
      go_loopw [27, 6] (fun kk vv wr => ∃ q : Nat, kk = .int .i64 q ∧ q ≤ ps.length ∧ Hid (wr.ownsRow w.heap.size 40 4 vv (catN (ps.take q)).length (flat (catN (ps.take q)))) ∧ RowKit.Below w.heap.size w wr) (fun kk _ _ => ps.length - (intOf kk).toNat)
      case atStart => exact ⟨0, rfl, by omega, by simpa [catN, flat, Hid] using HO.out, hb1⟩
      case round =>
        obtain ⟨q, rfl, hq, HOq, hbr⟩ := hrel
        have hzr := hbr.size
        by_cases hlq : q < ps.length
        · obtain ⟨⟨Ap, cp, e⟩, hx⟩ : ∃ p, ps[q]? = some p := ⟨_, List.getElem?_eq_getElem hlq⟩
          have HST := Lib.hid (catN_step hx)
          have h1 := catN_le (ps := ps) q
          have h2 := catN_le (ps := ps) (q + 1)
          rw [HST.out, List.length_append] at h2
          have hee := HN.out _ (List.mem_of_getElem? hx)
          have hg := (HS.out.good _ (List.mem_of_getElem? hx)).later hbr
          obtain ⟨b, o, rfl, hb, hc0⟩ := nsSl_at (HS.out.later hbr).sl hx
          simp only at hc0 hee h2
          obtain ⟨bn, on, rfl, hbn, -⟩ := hg.sl hee
          have HC := Lib.hid (fun j u hu => NdSl.flat hg.sl j u hu)
          generalize catN (ps.take q) = L at HOq HST h1 h2
          clear hg hx hee
          go_wp2_with (at_builtin; refine wpList_append_own _ rfl (.tmp 31) (.tmp 32) 24 rfl w.heap.size 40 j0 _ 4 48 Tryz.underlying24 hj hy0 hy1 hy2 rfl (by omega) _ L.length (flat L) rfl HOq.out ⟨bn, on, none⟩ e.length cp (flat e) rfl (flat_len e) HC.out (flat_one_cell e) (by unfold maxLen; omega) (by omega) (by omega) ?_; intro v1 w2 hown1 hgrow1 _)
          have hb2 : RowKit.Below w.heap.size w w2 := hbr.grown hgrow1 hbr.size (fun q hq => (HOq.out.lt q hq).1)
          have HO2 : Hid (w2.ownsRow w.heap.size 40 4 v1 (catN (ps.take (q + 1))).length (flat (catN (ps.take (q + 1))))) := by
            show World.ownsRow _ _ _ _ _ _ _
            rw [HST.out, flat_append, List.length_append]
            exact hown1
          exact ⟨⟨q + 1, by go_num, by omega, HO2, hb2⟩, by simp [intOf]; omega⟩
        · have HT : Hid (ps.take q = ps) := by show _ = _; rw [List.take_of_length_le (by omega)]
          rw [HT.out] at HOq
          obtain ⟨Ao, co, hv, hco, hcm, hso, hnew⟩ := own_form_new HOq.out
          subst hv
          have HSO := Lib.hid hso
          have HNW := Lib.hid hnew
          clear hso HOq hnew
          go_wp2_with fail
          go_ret
          exact ⟨Ao, co, rfl, hco, hcm, HSO.out, hbr, HNW.out⟩
end Go.Proofs.YtnhcjpmamgdeoaaGreatDoor
