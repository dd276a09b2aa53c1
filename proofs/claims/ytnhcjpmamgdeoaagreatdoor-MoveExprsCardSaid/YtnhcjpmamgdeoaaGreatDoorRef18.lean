/-
  PLAIN FACTS: a place of a slice of nodes; a part of it.
  THE WALK of the reference: the order of lists of nodes.
  THE WALK of the reference: where a value ends.
  THE WALK of the reference: where a value ends, at a set and a record; ValueFault.
-/
import Derived.Test.YtnhcjpmamgdeoaaGreatDoorNames
import Derived.Deep.QuietTactic
import Derived.BigQuiet
import Derived.Test.YtnhcjpmamgdeoaaGreatDoorRef1b
import Derived.Test.YtnhcjpmamgdeoaaGreatDoorRef2
import Derived.Test.YtnhcjpmamgdeoaaGreatDoorValA
import Derived.Test.YtnhcjpmamgdeoaaGreatDoorVal6
import Derived.Test.YtnhcjpmamgdeoaaGreatDoorRegHd
import Derived.Test.YtnhcjpmamgdeoaaGreatDoorVFuel
namespace Go.Proofs.YtnhcjpmamgdeoaaGreatDoor
open Go.RowKit

theorem run_at_nd (b o n c k : Nat) (hk : k < n) (W : World) : (Instr.indexAt 24 (.slice (some ⟨b, o, none⟩) n c) (.int .i64 (k : Int))).run Tryz.prog W = .ok (.pointer (some ⟨b, o + k * 4, none⟩)) W := by
  go_simp
theorem run_cut_nd (b o n c a z : Nat) (haz : a ≤ z) (hz : z ≤ c) (hac : a < c) (W : World) : (Instr.slice 24 (.slice (some ⟨b, o, none⟩) n c) (some (.int .i64 (a : Int))) (some (.int .i64 (z : Int))) none).run Tryz.prog W = .ok (.slice (some ⟨b, o + a * 4, none⟩) (z - a) (c - a)) W := by
  go_simp
  intro h
  omega
end Go.Proofs.YtnhcjpmamgdeoaaGreatDoor
namespace Go.Proofs.YtnhcjpmamgdeoaaGreatDoor
open Go.RowKit

set_option maxRecDepth 100000 in
set_option maxHeartbeats 6400000 in
theorem r1_Nodes (A1 A2 : Option Addr) (c1 c2 : Nat) (xs ys : List Nd) (w : World) (h1 : NdSl w w.heap.size A1 xs) (h2 : NdSl w w.heap.size A2 ys) (l1 : xs.length ≤ 9223372036854775807) (l2 : ys.length ≤ 9223372036854775807) (ok1 : NdOk xs) (ok2 : NdOk ys) :
    Calls Tryz.prog 83 #[.slice A1 xs.length c1, .slice A2 ys.length c2] w fun r w' => r = .returned (.int .i64 (ndsCmp xs ys)) ∧ Below w.heap.size w w' := by
  have H1 := Lib.hid h1
  have H2 := Lib.hid h2
  have HO1 := Lib.hid ok1
  have HO2 := Lib.hid ok2
  have HNM := Lib.hid (fun a b W => (r1_Numbers a b W).mono (fun _ _ (h : _ ∧ _) => (⟨h.1, h.2.symm⟩ : _ ∧ _)))
  clear h1 h2 ok1 ok2
  go_enter Tryz.func83, Tryz.ntmps83
  go_wp2_with fail
  go_loopw [5] (fun i wr => ∃ k : Nat, k ≤ xs.length ∧ k ≤ ys.length ∧ i = .int .i64 k ∧ Hid (ndsCmp xs ys = ndsCmp (xs.drop k) (ys.drop k)) ∧ Below w.heap.size w wr) (fun i _ => xs.length - (intOf i).toNat)
  case atStart => exact ⟨0, by omega, by omega, rfl, rfl, Below.refl _ _⟩
  case round =>
    obtain ⟨k, hk, hk2, rfl, HK, hbr⟩ := hrel
    have hzr := hbr.size
    by_cases hlt : k < xs.length
    · by_cases hlt2 : k < ys.length
      · obtain ⟨b, o, rfl, hb, hc⟩ := (H1.out.below hbr).at_ hlt
        obtain ⟨x, hx⟩ : ∃ x, xs[k]? = some x := ⟨_, List.getElem?_eq_getElem hlt⟩
        obtain ⟨d0, d1, d2, d3⟩ := hc k x hx
        have HX : Hid (xs.drop k = x :: xs.drop (k + 1)) := by
          show _ = _
          rw [List.drop_eq_getElem_cons hlt]; rw [List.getElem?_eq_getElem hlt] at hx; injection hx with hx; rw [hx]
        obtain ⟨hxs, hxt⟩ := HO1.out x (List.mem_of_getElem? hx)
        clear hc hx
        obtain ⟨b2, o2, rfl, hb2, hc⟩ := (H2.out.below hbr).at_ hlt2
        obtain ⟨y, hy⟩ : ∃ y, ys[k]? = some y := ⟨_, List.getElem?_eq_getElem hlt2⟩
        obtain ⟨e0, e1, e2, e3⟩ := hc k y hy
        have HY : Hid (ys.drop k = y :: ys.drop (k + 1)) := by
          show _ = _
          rw [List.drop_eq_getElem_cons hlt2]; rw [List.getElem?_eq_getElem hlt2] at hy; injection hy with hy; rw [hy]
        obtain ⟨hys, hyt⟩ := HO2.out y (List.mem_of_getElem? hy)
        clear hc hy
        have hbw : b < wr.heap.size := by omega
        have hbw2 : b2 < wr.heap.size := by omega
        have i1 : 0 ≤ (k : Int) := by omega
        have i2 : (k : Int) < (xs.length : Int) := by omega
        have i3 : (k : Int) < (ys.length : Int) := by omega
        have q1 := run_at_nd b o xs.length c1 k hlt
        have q2 := run_at_nd b2 o2 ys.length c2 k hlt2
        have HT1 := Lib.hid (fun W => r1_Texts x.s y.s W hxs hys)
        have HT2 := Lib.hid (fun W => r1_Texts x.t y.t W hxt hyt)
        have HND : Hid (ndCmp x y = orI [cmpI x.op y.op, cmpI x.n y.n, Lib.compareBytes x.s.data.toList y.s.data.toList, Lib.compareBytes x.t.data.toList y.t.data.toList]) := rfl
        obtain ⟨k1, hk1⟩ : ∃ k1, cmpI x.op y.op = k1 := ⟨_, rfl⟩
        obtain ⟨k2, hk2'⟩ : ∃ k2, cmpI x.n y.n = k2 := ⟨_, rfl⟩
        obtain ⟨k3, hk3⟩ : ∃ k3, Lib.compareBytes x.s.data.toList y.s.data.toList = k3 := ⟨_, rfl⟩
        obtain ⟨k4, hk4⟩ : ∃ k4, Lib.compareBytes x.t.data.toList y.t.data.toList = k4 := ⟨_, rfl⟩
        rw [hk1, hk2', hk3, hk4] at HND
        rw [hk3] at HT1
        rw [hk4] at HT2
        have HN1 := Lib.hid (fun W => HNM.out x.op y.op W)
        have HN2 := Lib.hid (fun W => HNM.out x.n y.n W)
        rw [hk1] at HN1
        rw [hk2'] at HN2
        clear hk1 hk2' hk3 hk4 hxs hxt hys hyt
        have HRT : Hid (∀ v, orI [k1, k2, k3, k4] = v → ¬ v = 0 → ndsCmp xs ys = v) := fun v hv h0 => by rw [HK.out, HX.out, HY.out, ndsCmp, HND.out, hv, if_neg h0]
        have HGO : Hid (orI [k1, k2, k3, k4] = 0 → ndsCmp xs ys = ndsCmp (xs.drop (k + 1)) (ys.drop (k + 1))) := fun hv => by rw [HK.out, HX.out, HY.out, ndsCmp, HND.out, hv, if_pos rfl]
        clear HK HX HY HND
        have D0 := Lib.hid d0
        have D1 := Lib.hid d1
        have D2 := Lib.hid d2
        have D3 := Lib.hid d3
        have E0 := Lib.hid e0
        have E1 := Lib.hid e1
        have E2 := Lib.hid e2
        have E3 := Lib.hid e3
        by_cases z1 : k1 = 0
        · by_cases z2 : k2 = 0
          · by_cases z3 : k3 = 0
            · by_cases z4 : k4 = 0
              · have HG := Lib.hid (HGO.out (by simp [orI, z1, z2, z3, z4]))
                have t1 : (k1 == 0) = true := by simp [z1]
                have t2 : (k2 == 0) = true := by simp [z2]
                have t3 : (k3 == 0) = true := by simp [z3]
                have t4 : (k4 != 0) = false := by simp [z4]
                clear z1 z2 z3 z4 HRT HGO
                go_wp2_with fail
                go_quiet ((go_at_call 85; exact Calls.quiet_of_same (HN1.out _)))
                clear d0 d1 d2 d3 e0 e1 e2 e3
                obtain ⟨v1, hv1⟩ : ∃ v1, v1 = wr.drewN nq := ⟨_, rfl⟩
                rw [← hv1]
                have hbv1 : Below wr.heap.size wr v1 := by rw [hv1]; exact below_drewN (Below.refl _ _) _
                clear hv1
                have d0 := (hbv1.cell (p := ⟨b, o + k * 4, none⟩) hbw).trans D0.out
                have e0 := (hbv1.cell (p := ⟨b2, o2 + k * 4, none⟩) hbw2).trans E0.out
                have d1 := (hbv1.cell (p := ⟨b, o + k * 4 + 1, none⟩) hbw).trans D1.out
                have e1 := (hbv1.cell (p := ⟨b2, o2 + k * 4 + 1, none⟩) hbw2).trans E1.out
                have d2 := (hbv1.cell (p := ⟨b, o + k * 4 + 2, none⟩) hbw).trans D2.out
                have e2 := (hbv1.cell (p := ⟨b2, o2 + k * 4 + 2, none⟩) hbw2).trans E2.out
                have d3 := (hbv1.cell (p := ⟨b, o + k * 4 + 3, none⟩) hbw).trans D3.out
                have e3 := (hbv1.cell (p := ⟨b2, o2 + k * 4 + 3, none⟩) hbw2).trans E3.out
                go_wp2_with fail
                go_quiet ((go_at_call 85; exact Calls.quiet_of_same (HN2.out _)))
                clear d0 d1 d2 d3 e0 e1 e2 e3
                obtain ⟨v2, hv2⟩ : ∃ v2, v2 = v1.drewN nq := ⟨_, rfl⟩
                rw [← hv2]
                have hbv2 : Below wr.heap.size wr v2 := by rw [hv2]; exact below_drewN hbv1 _
                clear hv2
                have d0 := (hbv2.cell (p := ⟨b, o + k * 4, none⟩) hbw).trans D0.out
                have e0 := (hbv2.cell (p := ⟨b2, o2 + k * 4, none⟩) hbw2).trans E0.out
                have d1 := (hbv2.cell (p := ⟨b, o + k * 4 + 1, none⟩) hbw).trans D1.out
                have e1 := (hbv2.cell (p := ⟨b2, o2 + k * 4 + 1, none⟩) hbw2).trans E1.out
                have d2 := (hbv2.cell (p := ⟨b, o + k * 4 + 2, none⟩) hbw).trans D2.out
                have e2 := (hbv2.cell (p := ⟨b2, o2 + k * 4 + 2, none⟩) hbw2).trans E2.out
                have d3 := (hbv2.cell (p := ⟨b, o + k * 4 + 3, none⟩) hbw).trans D3.out
                have e3 := (hbv2.cell (p := ⟨b2, o2 + k * 4 + 3, none⟩) hbw2).trans E3.out
                go_wp2_with fail
                refine wp_region_hd (S := fun W' => W'.cell? ⟨b, o + k * 4 + 2, none⟩ = some (.string x.s) ∧ W'.cell? ⟨b2, o2 + k * 4 + 2, none⟩ = some (.string y.s)) [false, false, false, false, false, false, false, false, false, false, true, false] (by kernel_rfl) (by kernel_rfl) (fun _ _ _ _ _ h => h) ⟨d2, e2⟩ (fun hW' => ?_)
                simp only [List.zip_cons_cons, List.zip_nil_left]
                (repeat (first | (refine hd_take (v := ?_) (by rfl) ?_ ?_; rotate_left; (focus (intro W hW; obtain ⟨s0', s1'⟩ := hW; go_simp; try with_reducible rfl)); simp only [Act.put, List.setIfInBounds_toArray, List.set_cons_zero, List.set_cons_succ]) | (refine hd_skip (by rfl) ?_; simp only [Act.put, List.setIfInBounds_toArray, List.set_cons_zero, List.set_cons_succ])))
                refine hd_call (fun K hK => ?_)
                go_simp
                refine (HT1.out _).mono ?_
                rintro r v3 ⟨rfl, hbq'⟩
                have hbq := below_of_drew hbq'
                have hbv3 : Below wr.heap.size wr v3 := hbv2.trans (hbq.mono hbv2.size)
                clear d0 d1 d2 d3 e0 e1 e2 e3
                have d0 := (hbv3.cell (p := ⟨b, o + k * 4, none⟩) hbw).trans D0.out
                have e0 := (hbv3.cell (p := ⟨b2, o2 + k * 4, none⟩) hbw2).trans E0.out
                have d1 := (hbv3.cell (p := ⟨b, o + k * 4 + 1, none⟩) hbw).trans D1.out
                have e1 := (hbv3.cell (p := ⟨b2, o2 + k * 4 + 1, none⟩) hbw2).trans E1.out
                have d2 := (hbv3.cell (p := ⟨b, o + k * 4 + 2, none⟩) hbw).trans D2.out
                have e2 := (hbv3.cell (p := ⟨b2, o2 + k * 4 + 2, none⟩) hbw2).trans E2.out
                have d3 := (hbv3.cell (p := ⟨b, o + k * 4 + 3, none⟩) hbw).trans D3.out
                have e3 := (hbv3.cell (p := ⟨b2, o2 + k * 4 + 3, none⟩) hbw2).trans E3.out
                refine hK _ _ ⟨d2, e2⟩ ?_
                clear hK K hbq hbq'
                (repeat (first | (refine hd_take (v := ?_) (by rfl) ?_ ?_; rotate_left; (focus (intro W hW; obtain ⟨s0', s1'⟩ := hW; go_simp; try with_reducible rfl)); simp only [Act.put, List.setIfInBounds_toArray, List.set_cons_zero, List.set_cons_succ]) | (refine hd_skip (by rfl) ?_; simp only [Act.put, List.setIfInBounds_toArray, List.set_cons_zero, List.set_cons_succ])))
                refine hd_nil ?_
                go_wp2_with fail
                refine wp_region_hd (S := fun W' => W'.cell? ⟨b, o + k * 4 + 3, none⟩ = some (.string x.t) ∧ W'.cell? ⟨b2, o2 + k * 4 + 3, none⟩ = some (.string y.t)) [false, false, false, false, false, false, false, false, false, false, true, false] (by kernel_rfl) (by kernel_rfl) (fun _ _ _ _ _ h => h) ⟨d3, e3⟩ (fun hW' => ?_)
                simp only [List.zip_cons_cons, List.zip_nil_left]
                (repeat (first | (refine hd_take (v := ?_) (by rfl) ?_ ?_; rotate_left; (focus (intro W hW; obtain ⟨s0', s1'⟩ := hW; go_simp; try with_reducible rfl)); simp only [Act.put, List.setIfInBounds_toArray, List.set_cons_zero, List.set_cons_succ]) | (refine hd_skip (by rfl) ?_; simp only [Act.put, List.setIfInBounds_toArray, List.set_cons_zero, List.set_cons_succ])))
                refine hd_call (fun K hK => ?_)
                go_simp
                refine (HT2.out _).mono ?_
                rintro r v4 ⟨rfl, hbq'⟩
                have hbq := below_of_drew hbq'
                have hbv4 : Below wr.heap.size wr v4 := hbv3.trans (hbq.mono hbv3.size)
                clear d0 d1 d2 d3 e0 e1 e2 e3
                have d0 := (hbv4.cell (p := ⟨b, o + k * 4, none⟩) hbw).trans D0.out
                have e0 := (hbv4.cell (p := ⟨b2, o2 + k * 4, none⟩) hbw2).trans E0.out
                have d1 := (hbv4.cell (p := ⟨b, o + k * 4 + 1, none⟩) hbw).trans D1.out
                have e1 := (hbv4.cell (p := ⟨b2, o2 + k * 4 + 1, none⟩) hbw2).trans E1.out
                have d2 := (hbv4.cell (p := ⟨b, o + k * 4 + 2, none⟩) hbw).trans D2.out
                have e2 := (hbv4.cell (p := ⟨b2, o2 + k * 4 + 2, none⟩) hbw2).trans E2.out
                have d3 := (hbv4.cell (p := ⟨b, o + k * 4 + 3, none⟩) hbw).trans D3.out
                have e3 := (hbv4.cell (p := ⟨b2, o2 + k * 4 + 3, none⟩) hbw2).trans E3.out
                refine hK _ _ ⟨d3, e3⟩ ?_
                clear hK K hbq hbq'
                (repeat (first | (refine hd_take (v := ?_) (by rfl) ?_ ?_; rotate_left; (focus (intro W hW; obtain ⟨s0', s1'⟩ := hW; go_simp; try with_reducible rfl)); simp only [Act.put, List.setIfInBounds_toArray, List.set_cons_zero, List.set_cons_succ]) | (refine hd_skip (by rfl) ?_; simp only [Act.put, List.setIfInBounds_toArray, List.set_cons_zero, List.set_cons_succ])))
                refine hd_nil ?_
                go_wp2_with fail
                exact ⟨⟨k + 1, by omega, by omega, by go_num, HG.out, hbr.trans (hbv4.mono hbr.size)⟩, by simp [intOf]; omega⟩
              · have HR := Lib.hid (HRT.out k4 (by simp [orI, z1, z2, z3, z4]) z4)
                have t1 : (k1 == 0) = true := by simp [z1]
                have t2 : (k2 == 0) = true := by simp [z2]
                have t3 : (k3 == 0) = true := by simp [z3]
                have t4 : (k4 != 0) = true := by simp [z4]
                clear z1 z2 z3 z4 HRT HGO
                go_wp2_with fail
                go_quiet ((go_at_call 85; exact Calls.quiet_of_same (HN1.out _)))
                clear d0 d1 d2 d3 e0 e1 e2 e3
                obtain ⟨v1, hv1⟩ : ∃ v1, v1 = wr.drewN nq := ⟨_, rfl⟩
                rw [← hv1]
                have hbv1 : Below wr.heap.size wr v1 := by rw [hv1]; exact below_drewN (Below.refl _ _) _
                clear hv1
                have d0 := (hbv1.cell (p := ⟨b, o + k * 4, none⟩) hbw).trans D0.out
                have e0 := (hbv1.cell (p := ⟨b2, o2 + k * 4, none⟩) hbw2).trans E0.out
                have d1 := (hbv1.cell (p := ⟨b, o + k * 4 + 1, none⟩) hbw).trans D1.out
                have e1 := (hbv1.cell (p := ⟨b2, o2 + k * 4 + 1, none⟩) hbw2).trans E1.out
                have d2 := (hbv1.cell (p := ⟨b, o + k * 4 + 2, none⟩) hbw).trans D2.out
                have e2 := (hbv1.cell (p := ⟨b2, o2 + k * 4 + 2, none⟩) hbw2).trans E2.out
                have d3 := (hbv1.cell (p := ⟨b, o + k * 4 + 3, none⟩) hbw).trans D3.out
                have e3 := (hbv1.cell (p := ⟨b2, o2 + k * 4 + 3, none⟩) hbw2).trans E3.out
                go_wp2_with fail
                go_quiet ((go_at_call 85; exact Calls.quiet_of_same (HN2.out _)))
                clear d0 d1 d2 d3 e0 e1 e2 e3
                obtain ⟨v2, hv2⟩ : ∃ v2, v2 = v1.drewN nq := ⟨_, rfl⟩
                rw [← hv2]
                have hbv2 : Below wr.heap.size wr v2 := by rw [hv2]; exact below_drewN hbv1 _
                clear hv2
                have d0 := (hbv2.cell (p := ⟨b, o + k * 4, none⟩) hbw).trans D0.out
                have e0 := (hbv2.cell (p := ⟨b2, o2 + k * 4, none⟩) hbw2).trans E0.out
                have d1 := (hbv2.cell (p := ⟨b, o + k * 4 + 1, none⟩) hbw).trans D1.out
                have e1 := (hbv2.cell (p := ⟨b2, o2 + k * 4 + 1, none⟩) hbw2).trans E1.out
                have d2 := (hbv2.cell (p := ⟨b, o + k * 4 + 2, none⟩) hbw).trans D2.out
                have e2 := (hbv2.cell (p := ⟨b2, o2 + k * 4 + 2, none⟩) hbw2).trans E2.out
                have d3 := (hbv2.cell (p := ⟨b, o + k * 4 + 3, none⟩) hbw).trans D3.out
                have e3 := (hbv2.cell (p := ⟨b2, o2 + k * 4 + 3, none⟩) hbw2).trans E3.out
                go_wp2_with fail
                refine wp_region_hd (S := fun W' => W'.cell? ⟨b, o + k * 4 + 2, none⟩ = some (.string x.s) ∧ W'.cell? ⟨b2, o2 + k * 4 + 2, none⟩ = some (.string y.s)) [false, false, false, false, false, false, false, false, false, false, true, false] (by kernel_rfl) (by kernel_rfl) (fun _ _ _ _ _ h => h) ⟨d2, e2⟩ (fun hW' => ?_)
                simp only [List.zip_cons_cons, List.zip_nil_left]
                (repeat (first | (refine hd_take (v := ?_) (by rfl) ?_ ?_; rotate_left; (focus (intro W hW; obtain ⟨s0', s1'⟩ := hW; go_simp; try with_reducible rfl)); simp only [Act.put, List.setIfInBounds_toArray, List.set_cons_zero, List.set_cons_succ]) | (refine hd_skip (by rfl) ?_; simp only [Act.put, List.setIfInBounds_toArray, List.set_cons_zero, List.set_cons_succ])))
                refine hd_call (fun K hK => ?_)
                go_simp
                refine (HT1.out _).mono ?_
                rintro r v3 ⟨rfl, hbq'⟩
                have hbq := below_of_drew hbq'
                have hbv3 : Below wr.heap.size wr v3 := hbv2.trans (hbq.mono hbv2.size)
                clear d0 d1 d2 d3 e0 e1 e2 e3
                have d0 := (hbv3.cell (p := ⟨b, o + k * 4, none⟩) hbw).trans D0.out
                have e0 := (hbv3.cell (p := ⟨b2, o2 + k * 4, none⟩) hbw2).trans E0.out
                have d1 := (hbv3.cell (p := ⟨b, o + k * 4 + 1, none⟩) hbw).trans D1.out
                have e1 := (hbv3.cell (p := ⟨b2, o2 + k * 4 + 1, none⟩) hbw2).trans E1.out
                have d2 := (hbv3.cell (p := ⟨b, o + k * 4 + 2, none⟩) hbw).trans D2.out
                have e2 := (hbv3.cell (p := ⟨b2, o2 + k * 4 + 2, none⟩) hbw2).trans E2.out
                have d3 := (hbv3.cell (p := ⟨b, o + k * 4 + 3, none⟩) hbw).trans D3.out
                have e3 := (hbv3.cell (p := ⟨b2, o2 + k * 4 + 3, none⟩) hbw2).trans E3.out
                refine hK _ _ ⟨d2, e2⟩ ?_
                clear hK K hbq hbq'
                (repeat (first | (refine hd_take (v := ?_) (by rfl) ?_ ?_; rotate_left; (focus (intro W hW; obtain ⟨s0', s1'⟩ := hW; go_simp; try with_reducible rfl)); simp only [Act.put, List.setIfInBounds_toArray, List.set_cons_zero, List.set_cons_succ]) | (refine hd_skip (by rfl) ?_; simp only [Act.put, List.setIfInBounds_toArray, List.set_cons_zero, List.set_cons_succ])))
                refine hd_nil ?_
                go_wp2_with fail
                refine wp_region_hd (S := fun W' => W'.cell? ⟨b, o + k * 4 + 3, none⟩ = some (.string x.t) ∧ W'.cell? ⟨b2, o2 + k * 4 + 3, none⟩ = some (.string y.t)) [false, false, false, false, false, false, false, false, false, false, true, false] (by kernel_rfl) (by kernel_rfl) (fun _ _ _ _ _ h => h) ⟨d3, e3⟩ (fun hW' => ?_)
                simp only [List.zip_cons_cons, List.zip_nil_left]
                (repeat (first | (refine hd_take (v := ?_) (by rfl) ?_ ?_; rotate_left; (focus (intro W hW; obtain ⟨s0', s1'⟩ := hW; go_simp; try with_reducible rfl)); simp only [Act.put, List.setIfInBounds_toArray, List.set_cons_zero, List.set_cons_succ]) | (refine hd_skip (by rfl) ?_; simp only [Act.put, List.setIfInBounds_toArray, List.set_cons_zero, List.set_cons_succ])))
                refine hd_call (fun K hK => ?_)
                go_simp
                refine (HT2.out _).mono ?_
                rintro r v4 ⟨rfl, hbq'⟩
                have hbq := below_of_drew hbq'
                have hbv4 : Below wr.heap.size wr v4 := hbv3.trans (hbq.mono hbv3.size)
                clear d0 d1 d2 d3 e0 e1 e2 e3
                have d0 := (hbv4.cell (p := ⟨b, o + k * 4, none⟩) hbw).trans D0.out
                have e0 := (hbv4.cell (p := ⟨b2, o2 + k * 4, none⟩) hbw2).trans E0.out
                have d1 := (hbv4.cell (p := ⟨b, o + k * 4 + 1, none⟩) hbw).trans D1.out
                have e1 := (hbv4.cell (p := ⟨b2, o2 + k * 4 + 1, none⟩) hbw2).trans E1.out
                have d2 := (hbv4.cell (p := ⟨b, o + k * 4 + 2, none⟩) hbw).trans D2.out
                have e2 := (hbv4.cell (p := ⟨b2, o2 + k * 4 + 2, none⟩) hbw2).trans E2.out
                have d3 := (hbv4.cell (p := ⟨b, o + k * 4 + 3, none⟩) hbw).trans D3.out
                have e3 := (hbv4.cell (p := ⟨b2, o2 + k * 4 + 3, none⟩) hbw2).trans E3.out
                refine hK _ _ ⟨d3, e3⟩ ?_
                clear hK K hbq hbq'
                (repeat (first | (refine hd_take (v := ?_) (by rfl) ?_ ?_; rotate_left; (focus (intro W hW; obtain ⟨s0', s1'⟩ := hW; go_simp; try with_reducible rfl)); simp only [Act.put, List.setIfInBounds_toArray, List.set_cons_zero, List.set_cons_succ]) | (refine hd_skip (by rfl) ?_; simp only [Act.put, List.setIfInBounds_toArray, List.set_cons_zero, List.set_cons_succ])))
                refine hd_nil ?_
                go_wp2_with fail
                go_ret
                exact ⟨ret_int HR.out.symm, hbr.trans (hbv4.mono hbr.size)⟩
            · have HR := Lib.hid (HRT.out k3 (by simp [orI, z1, z2, z3]) z3)
              have t1 : (k1 == 0) = true := by simp [z1]
              have t2 : (k2 == 0) = true := by simp [z2]
              have t3 : (k3 == 0) = false := by simp [z3]
              have t4 : (k3 != 0) = true := by simp [z3]
              clear z1 z2 z3 HRT HGO
              go_wp2_with fail
              go_quiet ((go_at_call 85; exact Calls.quiet_of_same (HN1.out _)))
              clear d0 d1 d2 d3 e0 e1 e2 e3
              obtain ⟨v1, hv1⟩ : ∃ v1, v1 = wr.drewN nq := ⟨_, rfl⟩
              rw [← hv1]
              have hbv1 : Below wr.heap.size wr v1 := by rw [hv1]; exact below_drewN (Below.refl _ _) _
              clear hv1
              have d0 := (hbv1.cell (p := ⟨b, o + k * 4, none⟩) hbw).trans D0.out
              have e0 := (hbv1.cell (p := ⟨b2, o2 + k * 4, none⟩) hbw2).trans E0.out
              have d1 := (hbv1.cell (p := ⟨b, o + k * 4 + 1, none⟩) hbw).trans D1.out
              have e1 := (hbv1.cell (p := ⟨b2, o2 + k * 4 + 1, none⟩) hbw2).trans E1.out
              have d2 := (hbv1.cell (p := ⟨b, o + k * 4 + 2, none⟩) hbw).trans D2.out
              have e2 := (hbv1.cell (p := ⟨b2, o2 + k * 4 + 2, none⟩) hbw2).trans E2.out
              have d3 := (hbv1.cell (p := ⟨b, o + k * 4 + 3, none⟩) hbw).trans D3.out
              have e3 := (hbv1.cell (p := ⟨b2, o2 + k * 4 + 3, none⟩) hbw2).trans E3.out
              go_wp2_with fail
              go_quiet ((go_at_call 85; exact Calls.quiet_of_same (HN2.out _)))
              clear d0 d1 d2 d3 e0 e1 e2 e3
              obtain ⟨v2, hv2⟩ : ∃ v2, v2 = v1.drewN nq := ⟨_, rfl⟩
              rw [← hv2]
              have hbv2 : Below wr.heap.size wr v2 := by rw [hv2]; exact below_drewN hbv1 _
              clear hv2
              have d0 := (hbv2.cell (p := ⟨b, o + k * 4, none⟩) hbw).trans D0.out
              have e0 := (hbv2.cell (p := ⟨b2, o2 + k * 4, none⟩) hbw2).trans E0.out
              have d1 := (hbv2.cell (p := ⟨b, o + k * 4 + 1, none⟩) hbw).trans D1.out
              have e1 := (hbv2.cell (p := ⟨b2, o2 + k * 4 + 1, none⟩) hbw2).trans E1.out
              have d2 := (hbv2.cell (p := ⟨b, o + k * 4 + 2, none⟩) hbw).trans D2.out
              have e2 := (hbv2.cell (p := ⟨b2, o2 + k * 4 + 2, none⟩) hbw2).trans E2.out
              have d3 := (hbv2.cell (p := ⟨b, o + k * 4 + 3, none⟩) hbw).trans D3.out
              have e3 := (hbv2.cell (p := ⟨b2, o2 + k * 4 + 3, none⟩) hbw2).trans E3.out
              go_wp2_with fail
              refine wp_region_hd (S := fun W' => W'.cell? ⟨b, o + k * 4 + 2, none⟩ = some (.string x.s) ∧ W'.cell? ⟨b2, o2 + k * 4 + 2, none⟩ = some (.string y.s)) [false, false, false, false, false, false, false, false, false, false, true, false] (by kernel_rfl) (by kernel_rfl) (fun _ _ _ _ _ h => h) ⟨d2, e2⟩ (fun hW' => ?_)
              simp only [List.zip_cons_cons, List.zip_nil_left]
              (repeat (first | (refine hd_take (v := ?_) (by rfl) ?_ ?_; rotate_left; (focus (intro W hW; obtain ⟨s0', s1'⟩ := hW; go_simp; try with_reducible rfl)); simp only [Act.put, List.setIfInBounds_toArray, List.set_cons_zero, List.set_cons_succ]) | (refine hd_skip (by rfl) ?_; simp only [Act.put, List.setIfInBounds_toArray, List.set_cons_zero, List.set_cons_succ])))
              refine hd_call (fun K hK => ?_)
              go_simp
              refine (HT1.out _).mono ?_
              rintro r v3 ⟨rfl, hbq'⟩
              have hbq := below_of_drew hbq'
              have hbv3 : Below wr.heap.size wr v3 := hbv2.trans (hbq.mono hbv2.size)
              clear d0 d1 d2 d3 e0 e1 e2 e3
              have d0 := (hbv3.cell (p := ⟨b, o + k * 4, none⟩) hbw).trans D0.out
              have e0 := (hbv3.cell (p := ⟨b2, o2 + k * 4, none⟩) hbw2).trans E0.out
              have d1 := (hbv3.cell (p := ⟨b, o + k * 4 + 1, none⟩) hbw).trans D1.out
              have e1 := (hbv3.cell (p := ⟨b2, o2 + k * 4 + 1, none⟩) hbw2).trans E1.out
              have d2 := (hbv3.cell (p := ⟨b, o + k * 4 + 2, none⟩) hbw).trans D2.out
              have e2 := (hbv3.cell (p := ⟨b2, o2 + k * 4 + 2, none⟩) hbw2).trans E2.out
              have d3 := (hbv3.cell (p := ⟨b, o + k * 4 + 3, none⟩) hbw).trans D3.out
              have e3 := (hbv3.cell (p := ⟨b2, o2 + k * 4 + 3, none⟩) hbw2).trans E3.out
              refine hK _ _ ⟨d2, e2⟩ ?_
              clear hK K hbq hbq'
              (repeat (first | (refine hd_take (v := ?_) (by rfl) ?_ ?_; rotate_left; (focus (intro W hW; obtain ⟨s0', s1'⟩ := hW; go_simp; try with_reducible rfl)); simp only [Act.put, List.setIfInBounds_toArray, List.set_cons_zero, List.set_cons_succ]) | (refine hd_skip (by rfl) ?_; simp only [Act.put, List.setIfInBounds_toArray, List.set_cons_zero, List.set_cons_succ])))
              refine hd_nil ?_
              go_wp2_with fail
              go_ret
              exact ⟨ret_int HR.out.symm, hbr.trans (hbv3.mono hbr.size)⟩
          · have HR := Lib.hid (HRT.out k2 (by simp [orI, z1, z2]) z2)
            have t1 : (k1 == 0) = true := by simp [z1]
            have t2 : (k2 == 0) = false := by simp [z2]
            have t4 : (k2 != 0) = true := by simp [z2]
            clear z1 z2 HRT HGO
            go_wp2_with fail
            go_quiet ((go_at_call 85; exact Calls.quiet_of_same (HN1.out _)))
            clear d0 d1 d2 d3 e0 e1 e2 e3
            obtain ⟨v1, hv1⟩ : ∃ v1, v1 = wr.drewN nq := ⟨_, rfl⟩
            rw [← hv1]
            have hbv1 : Below wr.heap.size wr v1 := by rw [hv1]; exact below_drewN (Below.refl _ _) _
            clear hv1
            have d0 := (hbv1.cell (p := ⟨b, o + k * 4, none⟩) hbw).trans D0.out
            have e0 := (hbv1.cell (p := ⟨b2, o2 + k * 4, none⟩) hbw2).trans E0.out
            have d1 := (hbv1.cell (p := ⟨b, o + k * 4 + 1, none⟩) hbw).trans D1.out
            have e1 := (hbv1.cell (p := ⟨b2, o2 + k * 4 + 1, none⟩) hbw2).trans E1.out
            have d2 := (hbv1.cell (p := ⟨b, o + k * 4 + 2, none⟩) hbw).trans D2.out
            have e2 := (hbv1.cell (p := ⟨b2, o2 + k * 4 + 2, none⟩) hbw2).trans E2.out
            have d3 := (hbv1.cell (p := ⟨b, o + k * 4 + 3, none⟩) hbw).trans D3.out
            have e3 := (hbv1.cell (p := ⟨b2, o2 + k * 4 + 3, none⟩) hbw2).trans E3.out
            go_wp2_with fail
            go_quiet ((go_at_call 85; exact Calls.quiet_of_same (HN2.out _)))
            clear d0 d1 d2 d3 e0 e1 e2 e3
            obtain ⟨v2, hv2⟩ : ∃ v2, v2 = v1.drewN nq := ⟨_, rfl⟩
            rw [← hv2]
            have hbv2 : Below wr.heap.size wr v2 := by rw [hv2]; exact below_drewN hbv1 _
            clear hv2
            have d0 := (hbv2.cell (p := ⟨b, o + k * 4, none⟩) hbw).trans D0.out
            have e0 := (hbv2.cell (p := ⟨b2, o2 + k * 4, none⟩) hbw2).trans E0.out
            have d1 := (hbv2.cell (p := ⟨b, o + k * 4 + 1, none⟩) hbw).trans D1.out
            have e1 := (hbv2.cell (p := ⟨b2, o2 + k * 4 + 1, none⟩) hbw2).trans E1.out
            have d2 := (hbv2.cell (p := ⟨b, o + k * 4 + 2, none⟩) hbw).trans D2.out
            have e2 := (hbv2.cell (p := ⟨b2, o2 + k * 4 + 2, none⟩) hbw2).trans E2.out
            have d3 := (hbv2.cell (p := ⟨b, o + k * 4 + 3, none⟩) hbw).trans D3.out
            have e3 := (hbv2.cell (p := ⟨b2, o2 + k * 4 + 3, none⟩) hbw2).trans E3.out
            go_wp2_with fail
            go_ret
            exact ⟨ret_int HR.out.symm, hbr.trans (hbv2.mono hbr.size)⟩
        · have HR := Lib.hid (HRT.out k1 (by simp [orI, z1]) z1)
          have t1 : (k1 == 0) = false := by simp [z1]
          have t4 : (k1 != 0) = true := by simp [z1]
          clear z1 HRT HGO
          go_wp2_with fail
          go_quiet ((go_at_call 85; exact Calls.quiet_of_same (HN1.out _)))
          clear d0 d1 d2 d3 e0 e1 e2 e3
          obtain ⟨v1, hv1⟩ : ∃ v1, v1 = wr.drewN nq := ⟨_, rfl⟩
          rw [← hv1]
          have hbv1 : Below wr.heap.size wr v1 := by rw [hv1]; exact below_drewN (Below.refl _ _) _
          clear hv1
          have d0 := (hbv1.cell (p := ⟨b, o + k * 4, none⟩) hbw).trans D0.out
          have e0 := (hbv1.cell (p := ⟨b2, o2 + k * 4, none⟩) hbw2).trans E0.out
          have d1 := (hbv1.cell (p := ⟨b, o + k * 4 + 1, none⟩) hbw).trans D1.out
          have e1 := (hbv1.cell (p := ⟨b2, o2 + k * 4 + 1, none⟩) hbw2).trans E1.out
          have d2 := (hbv1.cell (p := ⟨b, o + k * 4 + 2, none⟩) hbw).trans D2.out
          have e2 := (hbv1.cell (p := ⟨b2, o2 + k * 4 + 2, none⟩) hbw2).trans E2.out
          have d3 := (hbv1.cell (p := ⟨b, o + k * 4 + 3, none⟩) hbw).trans D3.out
          have e3 := (hbv1.cell (p := ⟨b2, o2 + k * 4 + 3, none⟩) hbw2).trans E3.out
          go_wp2_with fail
          go_ret
          exact ⟨ret_int HR.out.symm, hbr.trans (hbv1.mono hbr.size)⟩
      · have HV : Hid (ndsCmp xs ys = cmpI xs.length ys.length) := by
          show _ = _
          rw [HK.out, List.drop_eq_getElem_cons hlt, List.drop_eq_nil_of_le (by omega : ys.length ≤ k)]
          show (1 : Int) = _
          unfold cmpI
          rw [if_neg (by omega), if_pos (by omega)]
        go_wp2_with fail
        refine (HNM.out _ _ _).mono ?_
        rintro r w2 ⟨rfl, rfl⟩
        go_wp2_with fail
        go_ret
        exact ⟨ret_int HV.out.symm, hbr⟩
    · have HV : Hid (ndsCmp xs ys = cmpI xs.length ys.length) := by
        show _ = _
        rw [HK.out, List.drop_eq_nil_of_le (by omega : xs.length ≤ k)]
        by_cases hlt2 : k < ys.length
        · rw [List.drop_eq_getElem_cons hlt2]
          show (-1 : Int) = _
          unfold cmpI
          rw [if_pos (by omega)]
        · rw [List.drop_eq_nil_of_le (by omega : ys.length ≤ k)]
          show (0 : Int) = _
          unfold cmpI
          rw [if_neg (by omega), if_neg (by omega)]
      go_wp2_with fail
      refine (HNM.out _ _ _).mono ?_
      rintro r w2 ⟨rfl, rfl⟩
      go_wp2_with fail
      go_ret
      exact ⟨ret_int HV.out.symm, hbr⟩
end Go.Proofs.YtnhcjpmamgdeoaaGreatDoor
namespace Go.Proofs.YtnhcjpmamgdeoaaGreatDoor
open Go.RowKit

theorem box_nd (x : Nd) (w : World) : (w.alloc (.cells #[.int .i64 x.op, .int .i64 x.n, .string x.s, .string x.t] 40)).cell? ⟨w.heap.size, 0, none⟩ = some (.int .i64 x.op) ∧ (w.alloc (.cells #[.int .i64 x.op, .int .i64 x.n, .string x.s, .string x.t] 40)).cell? ⟨w.heap.size, 1, none⟩ = some (.int .i64 x.n) ∧
    (w.alloc (.cells #[.int .i64 x.op, .int .i64 x.n, .string x.s, .string x.t] 40)).cell? ⟨w.heap.size, 2, none⟩ = some (.string x.s) ∧ (w.alloc (.cells #[.int .i64 x.op, .int .i64 x.n, .string x.s, .string x.t] 40)).cell? ⟨w.heap.size, 3, none⟩ = some (.string x.t) := by
  have h := Blk.new w 40 #[.int .i64 x.op, .int .i64 x.n, .string x.s, .string x.t]
  exact ⟨h.cell 0, h.cell 1, h.cell 2, h.cell 3⟩
def VEOk (e : List Nd) (m : Nat) : Prop := ∀ (i : Nat) (fld : Bool) (A : Option Addr) (c : Nat) (w : World), e.length - i ≤ m → i ≤ e.length → e.length ≤ 200 → e.length ≤ c → c ≤ 9223372036854775807 → NdOk e → NdSl w w.heap.size A e →
  Calls Tryz.prog 54 #[.slice A e.length c, .int .i64 i, .bool fld] w fun r w' => r = .returned (.int .i64 (bVal (veR e fld i))) ∧ Below w.heap.size w w'
theorem veR_out {e : List Nd} {fld : Bool} {i : Nat} (h : e.length ≤ i) : veR e fld i = none := by
  unfold veR fR
  rw [vR_out e h, List.getElem?_eq_none h]
  cases fld <;> rfl
theorem veR_bad {e : List Nd} {fld : Bool} {i : Nat} {x : Nd} (hx : e[i]? = some x) (h : shapedV x = false ∨ (x.op == 7) ≠ fld) : veR e fld i = none := by
  unfold veR fR
  rw [vR_one e hx, hx]
  cases fld with
  | true =>
    simp only [if_true]
    rw [if_neg]
    rintro ⟨h1, h2⟩
    rcases h with h | h
    · rw [h2] at h; cases h
    · exact h (by simp [h1])
  | false =>
    simp only [Bool.false_eq_true, if_false]
    rcases h with h | h
    · rw [if_pos h]
    · have h7 : x.op = 7 := by simpa using h
      by_cases hs : shapedV x = false
      · rw [if_pos hs]
      · rw [if_neg hs, if_neg (by omega), if_neg (by omega), if_pos h7]
set_option maxRecDepth 100000 in
set_option maxHeartbeats 1600000 in
theorem r1_ve_out (e : List Nd) (i : Nat) (fld : Bool) (A : Option Addr) (c : Nat) (w : World) (hi : e.length ≤ i) (hl : e.length ≤ 200) :
    Calls Tryz.prog 54 #[.slice A e.length c, .int .i64 i, .bool fld] w fun r w' => r = .returned (.int .i64 (bVal (veR e fld i))) ∧ Below w.heap.size w w' := by
  rw [veR_out hi]
  have d1 : decide ((i : Int) < 0) = false := by simp
  go_enter Tryz.func54, Tryz.ntmps54
  go_wp2_with fail
  go_ret
  exact ⟨rfl, Below.refl _ _⟩
set_option maxRecDepth 100000 in
set_option maxHeartbeats 1600000 in
theorem r1_ve_bad (e : List Nd) (i : Nat) (fld : Bool) (A : Option Addr) (c : Nat) (w : World) (x : Nd) (hx : e[i]? = some x) (hl : e.length ≤ 200) (hok : NdOk e) (hsl : NdSl w w.heap.size A e) (h : shapedV x = false ∨ (x.op == 7) ≠ fld) :
    Calls Tryz.prog 54 #[.slice A e.length c, .int .i64 i, .bool fld] w fun r w' => r = .returned (.int .i64 (bVal (veR e fld i))) ∧ Below w.heap.size w w' := by
  rw [veR_bad hx h]
  have hil : i < e.length := (List.getElem?_eq_some_iff.1 hx).1
  obtain ⟨b, o, rfl, hb, hcs⟩ := hsl.at_ hil
  obtain ⟨d0, d1, d2, d3⟩ := hcs i x hx
  obtain ⟨hxs, hxt⟩ := hok x (List.mem_of_getElem? hx)
  have HN := Lib.hid (fun W => r1_ValueNode x.op x.n x.s x.t W hxs hxt)
  clear hcs hsl hok hx
  have dd : decide (e.length ≤ i) = false := by simp; omega
  have d1' : decide ((i : Int) < 0) = false := by simp
  obtain ⟨c0, c1, c2, c3⟩ := box_nd x w
  cases hs : shapedV x with
  | false =>
    rw [show shapedV ⟨x.op, x.n, x.s, x.t⟩ = false from hs] at HN
    clear hs h
    go_enter Tryz.func54, Tryz.ntmps54
    go_wp2_with fail
    refine (HN.out _).mono ?_
    rintro r w1 ⟨rfl, hb1⟩
    have hw1 : Below w.heap.size w w1 := Below.trans (by (repeat (first | assumption | exact Below.refl _ _ | apply Below.drew | apply below_drewN | (refine Below.alloc ?_ (by first | exact Nat.le_refl _ | omega | (simp; done) | (simp; omega)) _)))) (hb1.mono (by simp))
    clear c0 c1 c2 c3
    go_wp2_with fail
    go_ret
    exact ⟨rfl, hw1⟩
  | true =>
    rw [show shapedV ⟨x.op, x.n, x.s, x.t⟩ = true from hs] at HN
    have h7 : (x.op == 7) ≠ fld := by
      rcases h with h | h
      · rw [hs] at h; cases h
      · exact h
    clear hs h
    cases h7' : (x.op == 7) <;> cases fld
    · exact absurd h7' h7
    · clear h7
      go_enter Tryz.func54, Tryz.ntmps54
      go_wp2_with fail
      refine (HN.out _).mono ?_
      rintro r w1 ⟨rfl, hb1⟩
      have hw1 : Below w.heap.size w w1 := Below.trans (by (repeat (first | assumption | exact Below.refl _ _ | apply Below.drew | apply below_drewN | (refine Below.alloc ?_ (by first | exact Nat.le_refl _ | omega | (simp; done) | (simp; omega)) _)))) (hb1.mono (by simp))
      have a0 := (hb1.cell (p := ⟨w.heap.size, 0, none⟩) (by simp)).trans c0
      clear c0 c1 c2 c3 hb1
      go_wp2_with fail
      go_ret
      exact ⟨rfl, hw1⟩
    · clear h7
      go_enter Tryz.func54, Tryz.ntmps54
      go_wp2_with fail
      refine (HN.out _).mono ?_
      rintro r w1 ⟨rfl, hb1⟩
      have hw1 : Below w.heap.size w w1 := Below.trans (by (repeat (first | assumption | exact Below.refl _ _ | apply Below.drew | apply below_drewN | (refine Below.alloc ?_ (by first | exact Nat.le_refl _ | omega | (simp; done) | (simp; omega)) _)))) (hb1.mono (by simp))
      have a0 := (hb1.cell (p := ⟨w.heap.size, 0, none⟩) (by simp)).trans c0
      clear c0 c1 c2 c3 hb1
      go_wp2_with fail
      go_ret
      exact ⟨rfl, hw1⟩
    · exact absurd h7' h7
set_option maxRecDepth 100000 in
set_option maxHeartbeats 1600000 in
theorem r1_ve_low (e : List Nd) (i : Nat) (fld : Bool) (A : Option Addr) (c : Nat) (w : World) (x : Nd) (hx : e[i]? = some x) (hl : e.length ≤ 200) (hle : e.length ≤ c) (hcm : c ≤ 9223372036854775807) (hok : NdOk e) (hsl : NdSl w w.heap.size A e) (hs : shapedV x = true) (h7 : (x.op == 7) = fld) (h5 : ¬ x.op = 5) (h6 : ¬ x.op = 6)
    (ih : VEOk e (e.length - (i + 1))) :
    Calls Tryz.prog 54 #[.slice A e.length c, .int .i64 i, .bool fld] w fun r w' => r = .returned (.int .i64 (bVal (veR e fld i))) ∧ Below w.heap.size w w' := by
  have hil : i < e.length := (List.getElem?_eq_some_iff.1 hx).1
  have HI := Lib.hid (fun W (hW : Below w.heap.size w W) => ih (i + 1) false A c W (Nat.le_refl _) (by omega) hl hle hcm hok ((hsl.below hW).more hW.size))
  obtain ⟨b, o, rfl, hb, hcs⟩ := hsl.at_ hil
  obtain ⟨d0, d1, d2, d3⟩ := hcs i x hx
  obtain ⟨hxs, hxt⟩ := hok x (List.mem_of_getElem? hx)
  have HN := Lib.hid (fun W => r1_ValueNode x.op x.n x.s x.t W hxs hxt)
  rw [show shapedV ⟨x.op, x.n, x.s, x.t⟩ = true from hs] at HN
  have HX := Lib.hid hx
  have e5 : (x.op != 5) = true := by simp [h5]
  have e6 : (x.op != 6) = true := by simp [h6]
  clear hcs hsl hok hx ih
  have dd : decide (e.length ≤ i) = false := by simp; omega
  have d1' : decide ((i : Int) < 0) = false := by simp
  obtain ⟨c0, c1, c2, c3⟩ := box_nd x w
  subst h7
  cases h7 : (x.op == 7) with
  | true =>
    have HV : Hid (veR e true i = veR e false (i + 1)) := by
      show _ = _
      unfold veR fR
      rw [HX.out]
      simp only [if_true, Bool.false_eq_true, if_false]
      rw [if_pos ⟨by simpa using h7, hs⟩]
    clear hs h5 h6
    go_enter Tryz.func54, Tryz.ntmps54
    go_wp2_with fail
    refine (HN.out _).mono ?_
    rintro r w1 ⟨rfl, hb1⟩
    have hw1 : Below w.heap.size w w1 := Below.trans (by (repeat (first | assumption | exact Below.refl _ _ | apply Below.drew | apply below_drewN | (refine Below.alloc ?_ (by first | exact Nat.le_refl _ | omega | (simp; done) | (simp; omega)) _)))) (hb1.mono (by simp))
    have a0 := (hb1.cell (p := ⟨w.heap.size, 0, none⟩) (by simp)).trans c0
    clear c0 c1 c2 c3 hb1
    go_wp2_with fail
    refine (HI.out _ hw1).mono ?_
    rintro r w2 ⟨rfl, hb2⟩
    go_wp2_with fail
    go_ret
    rw [HV.out]
    exact ⟨rfl, hw1.trans (hb2.mono hw1.size)⟩
  | false =>
    have HV : Hid (veR e false i = some (i + 1)) := by
      show _ = _
      unfold veR
      simp only [Bool.false_eq_true, if_false]
      rw [vR_one e HX.out, if_neg (by simp [hs]), if_neg h5, if_neg h6, if_neg (by simpa using h7)]
    clear hs h5 h6
    go_enter Tryz.func54, Tryz.ntmps54
    go_wp2_with fail
    refine (HN.out _).mono ?_
    rintro r w1 ⟨rfl, hb1⟩
    have hw1 : Below w.heap.size w w1 := Below.trans (by (repeat (first | assumption | exact Below.refl _ _ | apply Below.drew | apply below_drewN | (refine Below.alloc ?_ (by first | exact Nat.le_refl _ | omega | (simp; done) | (simp; omega)) _)))) (hb1.mono (by simp))
    have a0 := (hb1.cell (p := ⟨w.heap.size, 0, none⟩) (by simp)).trans c0
    clear c0 c1 c2 c3 hb1
    go_wp2_with fail
    go_ret
    rw [HV.out]
    exact ⟨rfl, hw1⟩
end Go.Proofs.YtnhcjpmamgdeoaaGreatDoor
namespace Go.Proofs.YtnhcjpmamgdeoaaGreatDoor
open Go.RowKit

/-- A node in a box. -/
structure NBox (x : Nd) (b : Nat) (W : World) : Prop where
  c0 : W.cell? ⟨b, 0, none⟩ = some (.int .i64 x.op)
  c1 : W.cell? ⟨b, 1, none⟩ = some (.int .i64 x.n)
  lt : b < W.heap.size
theorem NBox.later {x : Nd} {b : Nat} {W W' : World} (h : NBox x b W) (hb : Below W.heap.size W W') : NBox x b W' :=
  ⟨(hb.cell (p := ⟨b, 0, none⟩) h.lt).trans h.c0, (hb.cell (p := ⟨b, 1, none⟩) h.lt).trans h.c1, Nat.lt_of_lt_of_le h.lt hb.size⟩
def lpV : Option Nat → Value
  | none => .int .i64 (-1)
  | some l => .int .i64 (l : Int)
def lpP (e : List Nd) (lp : Option Nat) (j : Nat) : Option (List Nd) := lp.map fun l => piece e l j
def lpN (e : List Nd) : Option Nat → ByteArray
  | none => ⟨#[]⟩
  | some l => headS (e.drop l)
theorem head_at {e : List Nd} {i : Nat} {x : Nd} (h : e[i]? = some x) : headS (e.drop i) = x.s := by unfold headS; rw [List.head?_drop, h]; rfl
theorem piece_mem {e : List Nd} {i j : Nat} {y : Nd} (h : y ∈ piece e i j) : y ∈ e := List.mem_of_mem_drop (List.mem_of_mem_take h)
theorem wrap_succ (i : Nat) (h : i < 1000) : IntKind.i64.wrap ((i : Int) + 1) = (i : Int) + 1 := by rw [IntKind.wrap_i64]; omega

set_option maxRecDepth 100000 in
set_option maxHeartbeats 6400000 in
theorem r1_ve_set (e : List Nd) (i : Nat) (A : Option Addr) (c : Nat) (w : World) (x : Nd) (hx : e[i]? = some x) (hl : e.length ≤ 200) (hle : e.length ≤ c) (hcm : c ≤ 9223372036854775807) (hok : NdOk e) (hsl : NdSl w w.heap.size A e) (hs : shapedV x = true) (hop : x.op = 5)
    (ih : ∀ m, m < e.length - i → VEOk e m) :
    Calls Tryz.prog 54 #[.slice A e.length c, .int .i64 i, .bool false] w fun r w' => r = .returned (.int .i64 (bVal (veR e false i))) ∧ Below w.heap.size w w' := by
  have hil : i < e.length := (List.getElem?_eq_some_iff.1 hx).1
  have HI := Lib.hid (fun j W (hj : i + 1 ≤ j) (hj2 : j ≤ e.length) (hW : Below w.heap.size w W) => ih (e.length - j) (by omega) j false A c W (Nat.le_refl _) hj2 hl hle hcm hok ((hsl.below hW).more hW.size))
  have HS0 := Lib.hid hsl
  have HOK := Lib.hid hok
  obtain ⟨b, o, rfl, hb, hcs⟩ := hsl.at_ hil
  obtain ⟨d0, d1, d2, d3⟩ := hcs i x hx
  obtain ⟨hxs, hxt⟩ := hok x (List.mem_of_getElem? hx)
  have HN := Lib.hid (fun W => r1_ValueNode x.op x.n x.s x.t W hxs hxt)
  rw [show shapedV ⟨x.op, x.n, x.s, x.t⟩ = true from hs] at HN
  have hx0 : 0 ≤ x.n := by simp [shapedV, hop] at hs; omega
  obtain ⟨N, hN⟩ := Int.eq_ofNat_of_zero_le hx0
  have HV : Hid (veR e false i = vR e (.set N none) (i + 1)) := by
    show _ = _
    unfold veR
    simp only [Bool.false_eq_true, if_false]
    rw [vR_one e hx, if_neg (by simp [hs])]
    rw [if_pos hop, hN]; rfl
  have HNN := Lib.hid hN
  have e5 : (x.op != 5) = false := by simp [hop]
  have e5b : (x.op == 5) = true := by simp [hop]
  have e6b : (x.op == 6) = false := by simp [hop]
  have e7 : (x.op == 7) = false := by simp [hop]
  
  clear hcs hsl hok hx ih hs hop hx0 hN
  have dd : decide (e.length ≤ i) = false := by simp; omega
  have d1' : decide ((i : Int) < 0) = false := by simp
  have bx : NBox x w.heap.size (w.alloc (.cells #[.int .i64 x.op, .int .i64 x.n, .string x.s, .string x.t] 40)) := ⟨(box_nd x w).1, (box_nd x w).2.1, by simp⟩
  have HBX := Lib.hid bx
  have c0 := bx.c0
  have c1 := (box_nd x w).2.1
  have c2 := (box_nd x w).2.2.1
  have c3 := (box_nd x w).2.2.2
  clear bx
  go_enter Tryz.func54, Tryz.ntmps54
  go_wp2_with fail
  refine (HN.out _).mono ?_
  rintro r w1 ⟨rfl, hb1⟩
  have hw1 : Below w.heap.size w w1 := Below.trans (by (repeat (first | assumption | exact Below.refl _ _ | apply Below.drew | apply below_drewN | (refine Below.alloc ?_ (by first | exact Nat.le_refl _ | omega | (simp; done) | (simp; omega)) _)))) (hb1.mono (by simp))
  have HB1 := Lib.hid (HBX.out.later hb1)
  have a0 := HB1.out.c0
  clear c0 c1 c2 c3 hb1 d0 d1 d2 d3
  have ws : IntKind.i64.wrap ((i : Int) + 1) = (i : Int) + 1 := wrap_succ i (by omega)
  go_wp2_with fail
  clear ws
  go_loopw [8, 9, 10] (fun endv lastv iv wr => ∃ (q j : Nat) (lp : Option Nat), iv = .int .i64 q ∧ endv = .int .i64 j ∧ lastv = lpV lp ∧ q ≤ N ∧ i + 1 + q ≤ j ∧ j ≤ e.length ∧ (∀ l, lp = some l → i + 1 ≤ l ∧ l < j) ∧ Hid (vR e (.set (N - q) (lpP e lp j)) j = vR e (.set N none) (i + 1)) ∧ Below w1.heap.size w1 wr) (fun _ _ iv => fun _ => N - (intOf iv).toNat)
  case atStart => exact ⟨0, i + 1, none, rfl, by go_num, rfl, by omega, by omega, by omega, (by simp), rfl, Below.refl _ _⟩
  case round =>
    obtain ⟨q, j, lp, rfl, rfl, rfl, hq, hij, hj, hlp, HK, hbr⟩ := hrel
    have hzr := hbr.size
    have hwr : Below w.heap.size w wr := hw1.trans (hbr.mono hw1.size)
    have HBr := Lib.hid (HB1.out.later hbr)
    have g0 := HBr.out.c0
    have g1 := HBr.out.c1
    rw [HNN.out] at g1
    have hlr := HBr.out.lt
    clear a0
    by_cases hlt : q < N
    · obtain ⟨q', hq'⟩ : ∃ q', N - q = q' + 1 := ⟨N - q - 1, by omega⟩
      have HCE := Lib.hid (HI.out j wr (by omega) hj hwr)
      simp only [veR, Bool.false_eq_true, if_false] at HCE
      cases hv : vR e .one j with
      | none =>
        have HNO : Hid (bVal (veR e false i) = -1) := by
          show _ = _
          rw [HV.out, ← HK.out, hq', vR_set e q' _ hj, hv]; rfl
        rw [hv] at HCE
        clear hv HK HI
        have HCE2 : Hid (Calls Tryz.prog 54 #[.slice (some ⟨b, o, none⟩) e.length c, .int .i64 j, .bool false] wr fun r w' => r = .returned (.int .i64 (-1)) ∧ Below wr.heap.size wr w') := HCE.out
        clear HCE
        go_wp2_with fail
        refine HCE2.out.mono ?_
        rintro r w2 ⟨rfl, hb2⟩
        have hw2 := hwr.trans (hb2.mono hwr.size)
        clear hb2 g0 g1
        go_wp2_with fail
        go_ret
        rw [HNO.out]
        exact ⟨rfl, hw2⟩
      | some z =>
        obtain ⟨hz1, hz2, hz3⟩ := vR_bound hv
        have hz1 := hz1 hj
        have hz3 := hz3 rfl
        have HSTP := Lib.hid (vR_set e q' (lpP e lp j) hj)
        rw [hv] at HSTP HCE
        have HVV := Lib.hid hv
        rw [hq'] at HK
        have HCE2 : Hid (Calls Tryz.prog 54 #[.slice (some ⟨b, o, none⟩) e.length c, .int .i64 j, .bool false] wr fun r w' => r = .returned (.int .i64 (z : Int)) ∧ Below wr.heap.size wr w') := HCE.out
        have hzd : decide ((z : Int) < 0) = false := by simp
        clear hv HCE
        cases lp with
        | none =>
          have HK2 : Hid (vR e (.set (N - (q + 1)) (lpP e (some j) z)) z = vR e (.set N none) (i + 1)) := by
            show _ = _
            rw [← HK.out, HSTP.out, show N - (q + 1) = q' from by omega]
            simp only
            rw [if_neg (by simp [lpP, vLate])]
            rfl
          clear HK HSTP HI HVV
          dsimp only [lpV]
          go_wp2_with fail
          refine HCE2.out.mono ?_
          rintro r w2 ⟨rfl, hb2⟩
          have hw2 : Below w1.heap.size w1 w2 := hbr.trans (hb2.mono hbr.size)
          have h0 := (hb2.cell (p := ⟨w.heap.size, 0, none⟩) hlr).trans g0
          clear hb2 g0 g1
          go_wp2_with fail
          go_quiet (fail)
          go_wp2_with fail
          go_quiet (fail)
          go_wp2_with fail
          exact ⟨⟨q + 1, z, some j, by go_num, rfl, rfl, by omega, by omega, by omega, (by intro l hl'; injection hl' with hl'; omega), HK2, below_drewN hw2 _⟩, by simp [intOf]; omega⟩
        | some l =>
          obtain ⟨hl1, hl2⟩ := hlp l rfl
          have hld : decide ((0 : Int) ≤ (l : Int)) = true := by simp
          clear hlp
          have HNO := Lib.hid (fun W (hW : Below w.heap.size w W) => by
            have p1 := ((HS0.out.below hW).more hW.size).piece l j
            have p2 := ((HS0.out.below hW).more hW.size).piece j z
            have h := r1_Nodes _ _ (c - l) (c - j) _ _ W p1 p2 (by have := piece_le e l j; omega) (by have := piece_le e j z; omega) (fun y hy => HOK.out y (piece_mem hy)) (fun y hy => HOK.out y (piece_mem hy))
            rw [piece_len hj, piece_len hz1] at h
            exact h)
          have qa := run_cut_nd b o e.length c l j (by omega) (by omega) (by omega)
          have qb := run_cut_nd b o e.length c j z (by omega) (by omega) (by omega)
          obtain ⟨kk, hkk⟩ : ∃ kk, ndsCmp (piece e l j) (piece e j z) = kk := ⟨_, rfl⟩
          rw [hkk] at HNO
          have HLT : Hid (vLate (lpP e (some l) j) (piece e j z) = decide (0 ≤ kk)) := by
            show _ = _
            rw [← hkk]; rfl
          clear hkk
          by_cases hk0 : 0 ≤ kk
          · have HNONE : Hid (bVal (veR e false i) = -1) := by
              show _ = _
              rw [HV.out, ← HK.out, HSTP.out]
              simp only
              rw [HLT.out, if_pos (by simpa using hk0)]; rfl
            have tk : decide (0 ≤ kk) = true := by simpa using hk0
            clear HK HSTP HI HVV hk0
            dsimp only [lpV]
            go_wp2_with fail
            refine HCE2.out.mono ?_
            rintro r w2 ⟨rfl, hb2⟩
            have hw2 : Below w1.heap.size w1 w2 := hbr.trans (hb2.mono hbr.size)
            have hw2' : Below w.heap.size w w2 := hwr.trans (hb2.mono hwr.size)
            have h0 := (hb2.cell (p := ⟨w.heap.size, 0, none⟩) hlr).trans g0
            have hlr2 : w.heap.size < w2.heap.size := by have := hb2.size; omega
            clear hb2 g0 g1
            go_wp2_with fail
            refine wp_region_hd (S := fun W' => W'.cell? ⟨w.heap.size, 0, none⟩ = some (.int .i64 x.op)) [false, false, false, false, false, false, false, false, false, false, false, false, false, false, false, false, true, false, false] (by kernel_rfl) (by kernel_rfl) (fun _ _ _ _ _ h => h) h0 (fun hW' => ?_)
            simp only [List.zip_cons_cons, List.zip_nil_left]
            (repeat (first | (refine hd_take (v := ?_) (by rfl) ?_ ?_; rotate_left; (focus (intro W hW; obtain s0' := hW; go_simp; try with_reducible rfl)); simp only [Act.put, List.setIfInBounds_toArray, List.set_cons_zero, List.set_cons_succ]) | (refine hd_skip (by rfl) ?_; simp only [Act.put, List.setIfInBounds_toArray, List.set_cons_zero, List.set_cons_succ])))
            refine hd_call (fun K hK => ?_)
            go_simp
            refine (HNO.out _ (hw2'.drew)).mono ?_
            rintro r w3 ⟨rfl, hb3'⟩
            have hb3 := below_of_drew hb3'
            have k0 := (hb3.cell (p := ⟨w.heap.size, 0, none⟩) hlr2).trans h0
            refine hK _ _ k0 ?_
            clear hK K h0
            (repeat (first | (refine hd_take (v := ?_) (by rfl) ?_ ?_; rotate_left; (focus (intro W hW; obtain s0' := hW; go_simp; try with_reducible rfl)); simp only [Act.put, List.setIfInBounds_toArray, List.set_cons_zero, List.set_cons_succ]) | (refine hd_skip (by rfl) ?_; simp only [Act.put, List.setIfInBounds_toArray, List.set_cons_zero, List.set_cons_succ])))
            refine hd_nil ?_
            have hw3 : Below w1.heap.size w1 w3 := hw2.trans (hb3.mono hw2.size)
            have hw3' : Below w.heap.size w w3 := hw2'.trans (hb3.mono hw2'.size)
            clear hb3 hb3'
            go_wp2_with fail
            go_ret
            rw [HNONE.out]
            exact ⟨rfl, hw3'⟩
          · have HK2 : Hid (vR e (.set (N - (q + 1)) (lpP e (some j) z)) z = vR e (.set N none) (i + 1)) := by
              show _ = _
              rw [← HK.out, HSTP.out, show N - (q + 1) = q' from by omega]
              simp only
              rw [HLT.out, if_neg (by simpa using hk0)]
              rfl
            have tk : decide (0 ≤ kk) = false := by simpa using hk0
            clear HK HSTP HI HVV hk0
            dsimp only [lpV]
            go_wp2_with fail
            refine HCE2.out.mono ?_
            rintro r w2 ⟨rfl, hb2⟩
            have hw2 : Below w1.heap.size w1 w2 := hbr.trans (hb2.mono hbr.size)
            have hw2' : Below w.heap.size w w2 := hwr.trans (hb2.mono hwr.size)
            have h0 := (hb2.cell (p := ⟨w.heap.size, 0, none⟩) hlr).trans g0
            have hlr2 : w.heap.size < w2.heap.size := by have := hb2.size; omega
            clear hb2 g0 g1
            go_wp2_with fail
            refine wp_region_hd (S := fun W' => W'.cell? ⟨w.heap.size, 0, none⟩ = some (.int .i64 x.op)) [false, false, false, false, false, false, false, false, false, false, false, false, false, false, false, false, true, false, false] (by kernel_rfl) (by kernel_rfl) (fun _ _ _ _ _ h => h) h0 (fun hW' => ?_)
            simp only [List.zip_cons_cons, List.zip_nil_left]
            (repeat (first | (refine hd_take (v := ?_) (by rfl) ?_ ?_; rotate_left; (focus (intro W hW; obtain s0' := hW; go_simp; try with_reducible rfl)); simp only [Act.put, List.setIfInBounds_toArray, List.set_cons_zero, List.set_cons_succ]) | (refine hd_skip (by rfl) ?_; simp only [Act.put, List.setIfInBounds_toArray, List.set_cons_zero, List.set_cons_succ])))
            refine hd_call (fun K hK => ?_)
            go_simp
            refine (HNO.out _ (hw2'.drew)).mono ?_
            rintro r w3 ⟨rfl, hb3'⟩
            have hb3 := below_of_drew hb3'
            have k0 := (hb3.cell (p := ⟨w.heap.size, 0, none⟩) hlr2).trans h0
            refine hK _ _ k0 ?_
            clear hK K h0
            (repeat (first | (refine hd_take (v := ?_) (by rfl) ?_ ?_; rotate_left; (focus (intro W hW; obtain s0' := hW; go_simp; try with_reducible rfl)); simp only [Act.put, List.setIfInBounds_toArray, List.set_cons_zero, List.set_cons_succ]) | (refine hd_skip (by rfl) ?_; simp only [Act.put, List.setIfInBounds_toArray, List.set_cons_zero, List.set_cons_succ])))
            refine hd_nil ?_
            have hw3 : Below w1.heap.size w1 w3 := hw2.trans (hb3.mono hw2.size)
            have hw3' : Below w.heap.size w w3 := hw2'.trans (hb3.mono hw2'.size)
            clear hb3 hb3'
            go_wp2_with fail
            go_quiet (fail)
            go_wp2_with fail
            exact ⟨⟨q + 1, z, some j, by go_num, rfl, rfl, by omega, by omega, by omega, (by intro l hl'; injection hl' with hl'; omega), HK2, below_drewN hw3 _⟩, by simp [intOf]; omega⟩
    · have HE : Hid (veR e false i = some j) := by
        show _ = _
        rw [HV.out, ← HK.out, show N - q = 0 from by omega, vR_set0]
      clear HI HK
      go_wp2_with fail
      go_ret
      rw [HE.out]
      exact ⟨rfl, hwr⟩
set_option maxRecDepth 100000 in
set_option maxHeartbeats 6400000 in
theorem r1_ve_rec (e : List Nd) (i : Nat) (A : Option Addr) (c : Nat) (w : World) (x : Nd) (hx : e[i]? = some x) (hl : e.length ≤ 200) (hle : e.length ≤ c) (hcm : c ≤ 9223372036854775807) (hok : NdOk e) (hsl : NdSl w w.heap.size A e) (hs : shapedV x = true) (hop : x.op = 6)
    (ih : ∀ m, m < e.length - i → VEOk e m) :
    Calls Tryz.prog 54 #[.slice A e.length c, .int .i64 i, .bool false] w fun r w' => r = .returned (.int .i64 (bVal (veR e false i))) ∧ Below w.heap.size w w' := by
  have hil : i < e.length := (List.getElem?_eq_some_iff.1 hx).1
  have HI := Lib.hid (fun j W (hj : i + 1 ≤ j) (hj2 : j ≤ e.length) (hW : Below w.heap.size w W) => ih (e.length - j) (by omega) j true A c W (Nat.le_refl _) hj2 hl hle hcm hok ((hsl.below hW).more hW.size))
  have HS0 := Lib.hid hsl
  have HOK := Lib.hid hok
  obtain ⟨b, o, rfl, hb, hcs⟩ := hsl.at_ hil
  obtain ⟨d0, d1, d2, d3⟩ := hcs i x hx
  obtain ⟨hxs, hxt⟩ := hok x (List.mem_of_getElem? hx)
  have HN := Lib.hid (fun W => r1_ValueNode x.op x.n x.s x.t W hxs hxt)
  rw [show shapedV ⟨x.op, x.n, x.s, x.t⟩ = true from hs] at HN
  have hx0 : 0 ≤ x.n := by simp [shapedV, hop] at hs; omega
  obtain ⟨N, hN⟩ := Int.eq_ofNat_of_zero_le hx0
  have HV : Hid (veR e false i = vR e (.flds N ⟨#[]⟩) (i + 1)) := by
    show _ = _
    unfold veR
    simp only [Bool.false_eq_true, if_false]
    rw [vR_one e hx, if_neg (by simp [hs])]
    rw [if_neg (by omega), if_pos hop, hN]; rfl
  have HNN := Lib.hid hN
  have e5 : (x.op != 5) = true := by simp [hop]
  have e6a : (x.op != 6) = false := by simp [hop]
  have e6b : (x.op == 6) = true := by simp [hop]
  have e7 : (x.op == 7) = false := by simp [hop]
  have e5b : (x.op == 5) = false := by simp [hop]
  clear hcs hsl hok hx ih hs hop hx0 hN
  have dd : decide (e.length ≤ i) = false := by simp; omega
  have d1' : decide ((i : Int) < 0) = false := by simp
  have bx : NBox x w.heap.size (w.alloc (.cells #[.int .i64 x.op, .int .i64 x.n, .string x.s, .string x.t] 40)) := ⟨(box_nd x w).1, (box_nd x w).2.1, by simp⟩
  have HBX := Lib.hid bx
  have c0 := bx.c0
  have c1 := (box_nd x w).2.1
  have c2 := (box_nd x w).2.2.1
  have c3 := (box_nd x w).2.2.2
  clear bx
  go_enter Tryz.func54, Tryz.ntmps54
  go_wp2_with fail
  refine (HN.out _).mono ?_
  rintro r w1 ⟨rfl, hb1⟩
  have hw1 : Below w.heap.size w w1 := Below.trans (by (repeat (first | assumption | exact Below.refl _ _ | apply Below.drew | apply below_drewN | (refine Below.alloc ?_ (by first | exact Nat.le_refl _ | omega | (simp; done) | (simp; omega)) _)))) (hb1.mono (by simp))
  have HB1 := Lib.hid (HBX.out.later hb1)
  have a0 := HB1.out.c0
  clear c0 c1 c2 c3 hb1 d0 d1 d2 d3
  have ws : IntKind.i64.wrap ((i : Int) + 1) = (i : Int) + 1 := wrap_succ i (by omega)
  go_wp2_with fail
  clear ws
  go_loopw [8, 9, 10] (fun endv lastv iv wr => ∃ (q j : Nat) (lp : Option Nat), iv = .int .i64 q ∧ endv = .int .i64 j ∧ lastv = lpV lp ∧ q ≤ N ∧ i + 1 + q ≤ j ∧ j ≤ e.length ∧ (∀ l, lp = some l → i + 1 ≤ l ∧ l < j) ∧ Hid (vR e (.flds (N - q) (lpN e lp)) j = vR e (.flds N ⟨#[]⟩) (i + 1)) ∧ Below w1.heap.size w1 wr) (fun _ _ iv => fun _ => N - (intOf iv).toNat)
  case atStart => exact ⟨0, i + 1, none, rfl, by go_num, rfl, by omega, by omega, by omega, (by simp), rfl, Below.refl _ _⟩
  case round =>
    obtain ⟨q, j, lp, rfl, rfl, rfl, hq, hij, hj, hlp, HK, hbr⟩ := hrel
    have hzr := hbr.size
    have hwr : Below w.heap.size w wr := hw1.trans (hbr.mono hw1.size)
    have HBr := Lib.hid (HB1.out.later hbr)
    have g0 := HBr.out.c0
    have g1 := HBr.out.c1
    rw [HNN.out] at g1
    have hlr := HBr.out.lt
    clear a0
    by_cases hlt : q < N
    · obtain ⟨q', hq'⟩ : ∃ q', N - q = q' + 1 := ⟨N - q - 1, by omega⟩
      have HCE := Lib.hid (HI.out j wr (by omega) hj hwr)
      simp only [veR, if_true] at HCE
      cases hv : fR e j with
      | none =>
        have HNO : Hid (bVal (veR e false i) = -1) := by
          show _ = _
          rw [HV.out, ← HK.out, hq', vR_flds e q' _ hj, hv]; rfl
        rw [hv] at HCE
        clear hv HK HI
        have HCE2 : Hid (Calls Tryz.prog 54 #[.slice (some ⟨b, o, none⟩) e.length c, .int .i64 j, .bool true] wr fun r w' => r = .returned (.int .i64 (-1)) ∧ Below wr.heap.size wr w') := HCE.out
        clear HCE
        go_wp2_with fail
        refine HCE2.out.mono ?_
        rintro r w2 ⟨rfl, hb2⟩
        have hw2 := hwr.trans (hb2.mono hwr.size)
        clear hb2 g0 g1
        go_wp2_with fail
        go_ret
        rw [HNO.out]
        exact ⟨rfl, hw2⟩
      | some z =>
        obtain ⟨_, hz1, hz3⟩ := fR_bound hv
        
        
        have HSTP := Lib.hid (vR_flds e q' (lpN e lp) hj)
        rw [hv] at HSTP HCE
        have HVV := Lib.hid hv
        rw [hq'] at HK
        have HCE2 : Hid (Calls Tryz.prog 54 #[.slice (some ⟨b, o, none⟩) e.length c, .int .i64 j, .bool true] wr fun r w' => r = .returned (.int .i64 (z : Int)) ∧ Below wr.heap.size wr w') := HCE.out
        have hzd : decide ((z : Int) < 0) = false := by simp
        clear hv HCE
        cases lp with
        | none =>
          have HK2 : Hid (vR e (.flds (N - (q + 1)) (lpN e (some j))) z = vR e (.flds N ⟨#[]⟩) (i + 1)) := by
            show _ = _
            rw [← HK.out, HSTP.out, show N - (q + 1) = q' from by omega]
            simp only
            rw [if_neg (by rw [show lpN e none = ⟨#[]⟩ from rfl, fR_first HVV.out]; simp)]
            rfl
          clear HK HSTP HI HVV
          dsimp only [lpV]
          go_wp2_with fail
          refine HCE2.out.mono ?_
          rintro r w2 ⟨rfl, hb2⟩
          have hw2 : Below w1.heap.size w1 w2 := hbr.trans (hb2.mono hbr.size)
          have h0 := (hb2.cell (p := ⟨w.heap.size, 0, none⟩) hlr).trans g0
          clear hb2 g0 g1
          go_wp2_with fail
          go_quiet (fail)
          go_wp2_with fail
          go_quiet (fail)
          go_wp2_with fail
          exact ⟨⟨q + 1, z, some j, by go_num, rfl, rfl, by omega, by omega, by omega, (by intro l hl'; injection hl' with hl'; omega), HK2, below_drewN hw2 _⟩, by simp [intOf]; omega⟩
        | some l =>
          obtain ⟨hl1, hl2⟩ := hlp l rfl
          have hld : decide ((0 : Int) ≤ (l : Int)) = true := by simp
          clear hlp
          obtain ⟨yl, hyl⟩ : ∃ y, e[l]? = some y := ⟨_, List.getElem?_eq_getElem (by omega)⟩
          obtain ⟨yj, hyj⟩ : ∃ y, e[j]? = some y := ⟨_, List.getElem?_eq_getElem (by omega)⟩
          obtain ⟨b', o', hbo, -, hcs⟩ := (HS0.out.below hwr).at_ hil
          injection hbo with hbo
          injection hbo with hbo1 hbo2
          subst hbo1 hbo2
          have u1 := (hcs l yl hyl).c2
          have u2 := (hcs j yj hyj).c2
          have HNO := Lib.hid (fun W => r1_Texts yl.s yj.s W (HOK.out yl (List.mem_of_getElem? hyl)).1 (HOK.out yj (List.mem_of_getElem? hyj)).1)
          have qa := run_at_nd b o e.length c l (by omega)
          have qb := run_at_nd b o e.length c j (by omega)
          obtain ⟨kk, hkk⟩ : ∃ kk, Lib.compareBytes yl.s.data.toList yj.s.data.toList = kk := ⟨_, rfl⟩
          rw [hkk] at HNO
          have HLT : Hid (sLate (lpN e (some l)) (headS (e.drop j)) = decide (0 ≤ kk)) := by
            show _ = _
            rw [head_at hyj, show lpN e (some l) = yl.s from head_at hyl, sLate_cmp, hkk]
          have hbr2 : b < wr.heap.size := by omega
          clear hkk hcs hyl hyj
          by_cases hk0 : 0 ≤ kk
          · have HNONE : Hid (bVal (veR e false i) = -1) := by
              show _ = _
              rw [HV.out, ← HK.out, HSTP.out]
              simp only
              rw [HLT.out, if_pos (by simpa using hk0)]; rfl
            have tk : decide (0 ≤ kk) = true := by simpa using hk0
            clear HK HSTP HI HVV hk0
            dsimp only [lpV]
            go_wp2_with fail
            refine HCE2.out.mono ?_
            rintro r w2 ⟨rfl, hb2⟩
            have hw2 : Below w1.heap.size w1 w2 := hbr.trans (hb2.mono hbr.size)
            have hw2' : Below w.heap.size w w2 := hwr.trans (hb2.mono hwr.size)
            have h0 := (hb2.cell (p := ⟨w.heap.size, 0, none⟩) hlr).trans g0
            have hlr2 : w.heap.size < w2.heap.size := by have := hb2.size; omega
            have hbr3 : b < w2.heap.size := by have := hb2.size; omega
            have u1' := (hb2.cell (p := ⟨b, o + l * 4 + 2, none⟩) hbr2).trans u1
            have u2' := (hb2.cell (p := ⟨b, o + j * 4 + 2, none⟩) hbr2).trans u2
            clear u1 u2
            clear hb2 g0 g1
            go_wp2_with fail
            go_quiet (fail)
            obtain ⟨v2, hv2⟩ : ∃ v2, v2 = w2.drewN nq := ⟨_, rfl⟩
            rw [← hv2]
            have hwv : Below w2.heap.size w2 v2 := by rw [hv2]; exact below_drewN (Below.refl _ _) _
            clear hv2
            have j0 := (hwv.cell (p := ⟨w.heap.size, 0, none⟩) hlr2).trans h0
            have j1 := (hwv.cell (p := ⟨b, o + l * 4 + 2, none⟩) hbr3).trans u1'
            have j2 := (hwv.cell (p := ⟨b, o + j * 4 + 2, none⟩) hbr3).trans u2'
            have hvz := hwv.size
            clear h0 u1' u2'
            go_wp2_with fail
            refine wp_region_hd (S := fun W' => W'.cell? ⟨w.heap.size, 0, none⟩ = some (.int .i64 x.op) ∧ W'.cell? ⟨b, o + l * 4 + 2, none⟩ = some (.string yl.s) ∧ W'.cell? ⟨b, o + j * 4 + 2, none⟩ = some (.string yj.s)) [false, false, false, false, false, false, false, false, false, false, false, false, false, false, false, false, false, false, true, false, false] (by kernel_rfl) (by kernel_rfl) (fun _ _ _ _ _ h => h) ⟨j0, j1, j2⟩ (fun hW' => ?_)
            simp only [List.zip_cons_cons, List.zip_nil_left]
            (repeat (first | (refine hd_take (v := ?_) (by rfl) ?_ ?_; rotate_left; (focus (intro W hW; obtain ⟨s0', s1', s2'⟩ := hW; go_simp; try with_reducible rfl)); simp only [Act.put, List.setIfInBounds_toArray, List.set_cons_zero, List.set_cons_succ]) | (refine hd_skip (by rfl) ?_; simp only [Act.put, List.setIfInBounds_toArray, List.set_cons_zero, List.set_cons_succ])))
            refine hd_call (fun K hK => ?_)
            go_simp
            refine (HNO.out _).mono ?_
            rintro r w3 ⟨rfl, hb3'⟩
            have hb3 := below_of_drew hb3'
            have k0 := (hb3.cell (p := ⟨w.heap.size, 0, none⟩) (by show w.heap.size < _; omega)).trans j0
            have k1 := (hb3.cell (p := ⟨b, o + l * 4 + 2, none⟩) (by show b < _; omega)).trans j1
            have k2 := (hb3.cell (p := ⟨b, o + j * 4 + 2, none⟩) (by show b < _; omega)).trans j2
            refine hK _ _ ⟨k0, k1, k2⟩ ?_
            clear hK K j0 j1 j2
            (repeat (first | (refine hd_take (v := ?_) (by rfl) ?_ ?_; rotate_left; (focus (intro W hW; obtain ⟨s0', s1', s2'⟩ := hW; go_simp; try with_reducible rfl)); simp only [Act.put, List.setIfInBounds_toArray, List.set_cons_zero, List.set_cons_succ]) | (refine hd_skip (by rfl) ?_; simp only [Act.put, List.setIfInBounds_toArray, List.set_cons_zero, List.set_cons_succ])))
            refine hd_nil ?_
            have hw3 : Below w1.heap.size w1 w3 := (hw2.trans (hwv.mono hw2.size)).trans (hb3.mono (by have := hw2.size; omega))
            have hw3' : Below w.heap.size w w3 := (hw2'.trans (hwv.mono hw2'.size)).trans (hb3.mono (by have := hw2'.size; omega))
            clear hb3 hb3' hwv
            go_wp2_with fail
            go_ret
            rw [HNONE.out]
            exact ⟨rfl, hw3'⟩
          · have HK2 : Hid (vR e (.flds (N - (q + 1)) (lpN e (some j))) z = vR e (.flds N ⟨#[]⟩) (i + 1)) := by
              show _ = _
              rw [← HK.out, HSTP.out, show N - (q + 1) = q' from by omega]
              simp only
              rw [HLT.out, if_neg (by simpa using hk0)]
              rfl
            have tk : decide (0 ≤ kk) = false := by simpa using hk0
            clear HK HSTP HI HVV hk0
            dsimp only [lpV]
            go_wp2_with fail
            refine HCE2.out.mono ?_
            rintro r w2 ⟨rfl, hb2⟩
            have hw2 : Below w1.heap.size w1 w2 := hbr.trans (hb2.mono hbr.size)
            have hw2' : Below w.heap.size w w2 := hwr.trans (hb2.mono hwr.size)
            have h0 := (hb2.cell (p := ⟨w.heap.size, 0, none⟩) hlr).trans g0
            have hlr2 : w.heap.size < w2.heap.size := by have := hb2.size; omega
            have hbr3 : b < w2.heap.size := by have := hb2.size; omega
            have u1' := (hb2.cell (p := ⟨b, o + l * 4 + 2, none⟩) hbr2).trans u1
            have u2' := (hb2.cell (p := ⟨b, o + j * 4 + 2, none⟩) hbr2).trans u2
            clear u1 u2
            clear hb2 g0 g1
            go_wp2_with fail
            go_quiet (fail)
            obtain ⟨v2, hv2⟩ : ∃ v2, v2 = w2.drewN nq := ⟨_, rfl⟩
            rw [← hv2]
            have hwv : Below w2.heap.size w2 v2 := by rw [hv2]; exact below_drewN (Below.refl _ _) _
            clear hv2
            have j0 := (hwv.cell (p := ⟨w.heap.size, 0, none⟩) hlr2).trans h0
            have j1 := (hwv.cell (p := ⟨b, o + l * 4 + 2, none⟩) hbr3).trans u1'
            have j2 := (hwv.cell (p := ⟨b, o + j * 4 + 2, none⟩) hbr3).trans u2'
            have hvz := hwv.size
            clear h0 u1' u2'
            go_wp2_with fail
            refine wp_region_hd (S := fun W' => W'.cell? ⟨w.heap.size, 0, none⟩ = some (.int .i64 x.op) ∧ W'.cell? ⟨b, o + l * 4 + 2, none⟩ = some (.string yl.s) ∧ W'.cell? ⟨b, o + j * 4 + 2, none⟩ = some (.string yj.s)) [false, false, false, false, false, false, false, false, false, false, false, false, false, false, false, false, false, false, true, false, false] (by kernel_rfl) (by kernel_rfl) (fun _ _ _ _ _ h => h) ⟨j0, j1, j2⟩ (fun hW' => ?_)
            simp only [List.zip_cons_cons, List.zip_nil_left]
            (repeat (first | (refine hd_take (v := ?_) (by rfl) ?_ ?_; rotate_left; (focus (intro W hW; obtain ⟨s0', s1', s2'⟩ := hW; go_simp; try with_reducible rfl)); simp only [Act.put, List.setIfInBounds_toArray, List.set_cons_zero, List.set_cons_succ]) | (refine hd_skip (by rfl) ?_; simp only [Act.put, List.setIfInBounds_toArray, List.set_cons_zero, List.set_cons_succ])))
            refine hd_call (fun K hK => ?_)
            go_simp
            refine (HNO.out _).mono ?_
            rintro r w3 ⟨rfl, hb3'⟩
            have hb3 := below_of_drew hb3'
            have k0 := (hb3.cell (p := ⟨w.heap.size, 0, none⟩) (by show w.heap.size < _; omega)).trans j0
            have k1 := (hb3.cell (p := ⟨b, o + l * 4 + 2, none⟩) (by show b < _; omega)).trans j1
            have k2 := (hb3.cell (p := ⟨b, o + j * 4 + 2, none⟩) (by show b < _; omega)).trans j2
            refine hK _ _ ⟨k0, k1, k2⟩ ?_
            clear hK K j0 j1 j2
            (repeat (first | (refine hd_take (v := ?_) (by rfl) ?_ ?_; rotate_left; (focus (intro W hW; obtain ⟨s0', s1', s2'⟩ := hW; go_simp; try with_reducible rfl)); simp only [Act.put, List.setIfInBounds_toArray, List.set_cons_zero, List.set_cons_succ]) | (refine hd_skip (by rfl) ?_; simp only [Act.put, List.setIfInBounds_toArray, List.set_cons_zero, List.set_cons_succ])))
            refine hd_nil ?_
            have hw3 : Below w1.heap.size w1 w3 := (hw2.trans (hwv.mono hw2.size)).trans (hb3.mono (by have := hw2.size; omega))
            have hw3' : Below w.heap.size w w3 := (hw2'.trans (hwv.mono hw2'.size)).trans (hb3.mono (by have := hw2'.size; omega))
            clear hb3 hb3' hwv
            go_wp2_with fail
            exact ⟨⟨q + 1, z, some j, by go_num, rfl, rfl, by omega, by omega, by omega, (by intro l hl'; injection hl' with hl'; omega), HK2, hw3⟩, by simp [intOf]; omega⟩
    · have HE : Hid (veR e false i = some j) := by
        show _ = _
        rw [HV.out, ← HK.out, show N - q = 0 from by omega, vR_fld0]
      clear HI HK
      go_wp2_with fail
      go_ret
      rw [HE.out]
      exact ⟨rfl, hwr⟩
theorem r1_ve (e : List Nd) : ∀ m, VEOk e m := by
  intro m
  induction m using Nat.strongRecOn with
  | _ m ih =>
    intro i fld A c w hm hi hl hle hcm hok hsl
    by_cases hil : e.length ≤ i
    · exact r1_ve_out e i fld A c w hil hl
    · obtain ⟨x, hx⟩ : ∃ x, e[i]? = some x := ⟨_, List.getElem?_eq_getElem (by omega)⟩
      by_cases hb : shapedV x = false ∨ (x.op == 7) ≠ fld
      · exact r1_ve_bad e i fld A c w x hx hl hok hsl hb
      · have hs : shapedV x = true := by
          cases h : shapedV x with
          | true => rfl
          | false => exact absurd (.inl h) hb
        have h7 : (x.op == 7) = fld := by
          by_cases h : (x.op == 7) = fld
          · exact h
          · exact absurd (.inr h) hb
        by_cases h5 : x.op = 5
        · have hf : fld = false := by rw [← h7]; simp [h5]
          subst hf
          exact r1_ve_set e i A c w x hx hl hle hcm hok hsl hs h5 (fun m' h' => ih m' (by omega))
        · by_cases h6 : x.op = 6
          · have hf : fld = false := by rw [← h7]; simp [h6]
            subst hf
            exact r1_ve_rec e i A c w x hx hl hle hcm hok hsl hs h6 (fun m' h' => ih m' (by omega))
          · exact r1_ve_low e i fld A c w x hx hl hle hcm hok hsl hs h7 h5 h6 (ih _ (by omega))
set_option maxRecDepth 100000 in
set_option maxHeartbeats 1600000 in
theorem r1_ValueFault (e : List Nd) (A : Option Addr) (c : Nat) (w : World) (hc : e.length ≤ c) (hcm : c ≤ 9223372036854775807) (hok : NdOk e) (hsl : NdSl w w.heap.size A e) :
    Calls Tryz.prog 29 #[.slice A e.length c] w fun r w' => r = .returned (.int .i64 (valErr e)) ∧ Below w.heap.size w w' := by
  rw [valErr_vR]
  by_cases h : 200 < e.length
  · rw [if_pos h]
    clear hsl
    go_enter Tryz.func29, Tryz.ntmps29
    go_wp2_with fail
    go_ret
    exact ⟨rfl, Below.refl _ _⟩
  · rw [if_neg h]
    have HB := Lib.hid (r1_ve e _ 0 false A c w (Nat.le_refl _) (Nat.zero_le _) (by omega) hc hcm hok hsl)
    clear hsl hok
    have hveq : veR e false 0 = vR e .one 0 := by unfold veR; simp
    rw [hveq] at HB
    clear hveq
    generalize bVal (vR e .one 0) = k at HB ⊢
    by_cases hq : k = (e.length : Int)
    · rw [if_pos hq]
      have hne : (k != (e.length : Int)) = false := by simp [hq]
      clear hq
      go_enter Tryz.func29, Tryz.ntmps29
      go_wp2_with fail
      refine HB.out.mono ?_
      rintro r w1 ⟨rfl, hb1⟩
      go_wp2_with fail
      go_ret
      exact ⟨rfl, hb1⟩
    · rw [if_neg hq]
      have hne : (k != (e.length : Int)) = true := by simp [hq]
      clear hq
      go_enter Tryz.func29, Tryz.ntmps29
      go_wp2_with fail
      refine HB.out.mono ?_
      rintro r w1 ⟨rfl, hb1⟩
      go_wp2_with fail
      go_ret
      exact ⟨rfl, hb1⟩
end Go.Proofs.YtnhcjpmamgdeoaaGreatDoor
