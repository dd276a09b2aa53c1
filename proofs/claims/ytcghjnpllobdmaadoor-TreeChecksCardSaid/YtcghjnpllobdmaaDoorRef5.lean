/-
  THE WALKS of the reference: Fault, Put.
-/
import Derived.Test.YtcghjnpllobdmaaDoorRef4
import Derived.Test.YtcghjnpllobdmaaDoorTree5
namespace Go.Proofs.YtcghjnpllobdmaaDoor
open Go.RowKit

theorem treeErr_beh (e : List Nd) : treeErr e = if 200 < e.length then 4 else if behV e 0 = (e.length : Int) then 0 else 1 := by
  unfold treeErr
  rw [show ((0 : Int)) = ((0 : Nat) : Int) from rfl, behV_nat, bR_one_len e false (Nat.zero_le _)]
  split
  · rfl
  · cases h : bR e (.one false) 0 with
    | none =>
      rw [if_neg (by simp), if_neg (by show ¬ (-1 : Int) = _; omega)]
    | some j =>
      by_cases hj : j = e.length
      · rw [if_pos (by rw [hj]), if_pos (by rw [hj]; rfl)]
      · rw [if_neg (by simpa using hj), if_neg (by show ¬ (j : Int) = _; omega)]

set_option maxRecDepth 100000 in
set_option maxHeartbeats 1600000 in
theorem r2_Fault (e : List Nd) (A : Option Addr) (c : Nat) (w : World) (hm : e.length ≤ 9223372036854775807) (hok : NdOk e) (hsl : NdSl w w.heap.size A e) :
    Calls Tryd.prog 16 #[.slice A e.length c] w fun r w' => r = .returned (.int .i64 (treeErr e)) ∧ Below w.heap.size w w' := by
  rw [treeErr_beh]
  by_cases h : 200 < e.length
  · rw [if_pos h]
    clear hsl
    go_enter Tryd.func16, Tryd.ntmps16
    go_wp2_with fail
    go_ret
    exact ⟨rfl, Below.refl _ _⟩
  · rw [if_neg h]
    have HB := Lib.hid (r2_Behind e _ 0 A c w (Nat.le_refl _) (by omega) hok hsl)
    clear hsl hok
    by_cases hq : behV e 0 = (e.length : Int)
    · rw [if_pos hq]
      rw [hq] at HB
      have hne : ((e.length : Int) != (e.length : Int)) = false := by simp
      clear hq
      go_enter Tryd.func16, Tryd.ntmps16
      go_wp2_with fail
      refine Calls.mono HB.out ?_
      rintro r w1 ⟨rfl, hb1⟩
      go_wp2_with fail
      go_ret
      exact ⟨rfl, hb1⟩
    · rw [if_neg hq]
      have hne : (behV e 0 != (e.length : Int)) = true := by simp [hq]
      clear hq
      go_enter Tryd.func16, Tryd.ntmps16
      go_wp2_with fail
      refine Calls.mono HB.out ?_
      rintro r w1 ⟨rfl, hb1⟩
      go_wp2_with fail
      go_ret
      exact ⟨rfl, hb1⟩
/-- A list of nodes that the reference hands back, and a number. -/
def NdsNum (w : World) (r : Ending) (w' : World) (xs : List Nd) (k : Int) : Prop :=
  ∃ A c, r = .returned (.tuple #[.slice A xs.length c, .int .i64 k]) ∧ xs.length ≤ c ∧ c ≤ 9223372036854775807 ∧ NdSl w' w'.heap.size A xs ∧ Below w.heap.size w w'
set_option maxRecDepth 100000 in
set_option maxHeartbeats 1600000 in
theorem r2_Put (e v : List Nd) (s : ByteArray) (A Av : Option Addr) (c cv : Nat) (w : World) (hc : e.length ≤ c) (hcm : c ≤ 9223372036854775807) (hok : NdOk e) (hsl : NdSl w w.heap.size A e)
    (hcv : v.length ≤ cv) (hcvm : cv ≤ 9223372036854775807) (hokv : NdOk v) (hslv : NdSl w w.heap.size Av v) :
    Calls Tryd.prog 8 #[.slice A e.length c, .string s, .slice Av v.length cv] w fun r w' => NdsNum w r w' (putV e s v).1 (putV e s v).2 := by
  obtain ⟨i0, hi, hz0, hz1, hz2⟩ := info_parts node_info
  have HF := Lib.hid (r2_Fault e A c w (by omega) hok hsl)
  by_cases h0 : treeErr e = 0
  · have HFV := fun W (hW : Below w.heap.size w W) => r2_Fault v Av cv W (by omega) hokv ((hslv.below hW).more hW.size)
    have HFV := Lib.hid HFV
    by_cases h1 : treeErr v = 0
    · have hle := tree_len h0
      have hlv := tree_len h1
      have HV : Hid (putV e s v = if 200 < (putL e s v).length then ([], 4) else (putL e s v, 0)) := by show _ = _; simp [putV, h0, h1]
      rw [h0] at HF
      rw [h1] at HFV
      have HS := Lib.hid hsl
      have HSV := Lib.hid hslv
      clear h0 h1 hsl hslv hok hokv
      go_enter Tryd.func8, Tryd.ntmps8
      go_wp2_with fail
      refine Calls.mono HF.out ?_
      rintro r w1 ⟨rfl, hb1⟩
      go_wp2_with fail
      refine Calls.mono (HFV.out _ hb1) ?_
      rintro r w2 ⟨rfl, hb2⟩
      have hw2 : Below w.heap.size w w2 := hb1.trans (hb2.mono hb1.size)
      clear hb1 hb2
      go_wp2_with fail
      go_loop [9, 10] (fun nn ii => ∃ k q : Nat, nn = .int .i64 q ∧ ii = .int .i64 k ∧ k ≤ e.length ∧ q ≤ k ∧ (putL (e.take k) s v).length + q = k + q * v.length) (fun _ ii => e.length - (intOf ii).toNat)
      case atStart => exact ⟨0, 0, rfl, rfl, by omega, by omega, by simp [putL]⟩
      case round =>
        obtain ⟨k, q, rfl, rfl, hk, hq, hkl⟩ := hrel
        by_cases hlt : k < e.length
        · obtain ⟨b, o, rfl, hb, hcs⟩ := (HS.out.below hw2).at_ hlt
          obtain ⟨x, hx⟩ : ∃ x, e[k]? = some x := ⟨_, List.getElem?_eq_getElem hlt⟩
          obtain ⟨d0, d1, d2, d3⟩ := hcs k x hx
          have HST : Hid ((putL (e.take (k + 1)) s v).length = (putL (e.take k) s v).length + (if isVar s x = true then v else [x]).length) := by
            show _ = _
            rw [putL_step hx s v, List.length_append]
          clear hcs hx
          by_cases hv : isVar s x = true
          · have h8 : (x.op == 8) = true := by unfold isVar at hv; simp at hv; simp [hv.1]
            have hss : (x.s.toList == s.toList) = true := by unfold isVar at hv; simp at hv; simp [hv.2]
            rw [if_pos hv] at HST
            clear hv
            have HKL := Lib.hid hkl
            clear hkl
            go_wp2_with fail
            have hkl := HKL.out
            have hst := HST.out
            exact ⟨⟨k + 1, q + 1, by go_num, by go_num, by omega, by omega, by rw [Nat.succ_mul]; omega⟩, by simp [intOf]; omega⟩
          · have hv0 : isVar s x = false := by simpa using hv
            rw [if_neg hv, List.length_singleton] at HST
            have HKL := Lib.hid hkl
            clear hkl
            by_cases h8 : (x.op == 8) = true
            · have hss : (x.s.toList == s.toList) = false := by unfold isVar at hv0; rw [h8] at hv0; simpa using hv0
              clear hv hv0
              go_wp2_with fail
              have hkl := HKL.out
              have hst := HST.out
              exact ⟨⟨k + 1, q, rfl, by go_num, by omega, by omega, by omega⟩, by simp [intOf]; omega⟩
            · have h8' : (x.op == 8) = false := by simpa using h8
              clear hv hv0 h8
              go_wp2_with fail
              have hkl := HKL.out
              have hst := HST.out
              exact ⟨⟨k + 1, q, rfl, by go_num, by omega, by omega, by omega⟩, by simp [intOf]; omega⟩
        · obtain rfl : k = e.length := by omega
          rw [List.take_length] at hkl
          have hqv : q * v.length ≤ 200 * 200 := Nat.mul_le_mul (by omega) hlv.1
          obtain ⟨T, hT⟩ : ∃ T, q * v.length = T := ⟨_, rfl⟩
          have hTi : (q : Int) * (v.length : Int) = (T : Int) := by rw [← hT]; exact (Int.natCast_mul q v.length).symm
          rw [hT] at hkl hqv
          have HT := Lib.hid hT
          clear hT
          by_cases hbig : 200 < (putL e s v).length
          · rw [if_pos hbig] at HV
            have hd : decide ((200 : Int) < (e.length : Int) - q + T) = true := by simp; omega
            go_wp2_with fail
            go_ret2
            rw [HV.out]
            exact ⟨none, 0, rfl, Nat.le_refl _, by omega, NdSl.nil _ _ _, hw2⟩
          · rw [if_neg hbig] at HV
            have hd : decide ((200 : Int) < (e.length : Int) - q + T) = false := by simp; omega
            go_wp2_with fail
            go_loopw [11, 12] (fun out kk wr => ∃ k : Nat, kk = .int .i64 k ∧ k ≤ e.length ∧ Hid (wr.ownsRow w.heap.size 46 4 out (putL (e.take k) s v).length (flat (putL (e.take k) s v))) ∧ Below w.heap.size w wr)
              (fun _ kk _ => e.length - (intOf kk).toNat)
            case atStart => exact ⟨0, rfl, by omega, World.ownsRow_nil _ _ _ _, hw2⟩
            case round =>
              obtain ⟨k, rfl, hk, HO, hbr⟩ := hrel
              have hzr := hbr.size
              by_cases hlt : k < e.length
              · obtain ⟨b, o, rfl, hb, hcs⟩ := (HS.out.below hbr).at_ hlt
                obtain ⟨x, hx⟩ : ∃ x, e[k]? = some x := ⟨_, List.getElem?_eq_getElem hlt⟩
                obtain ⟨d0, d1, d2, d3⟩ := hcs k x hx
                have hps := putL_step hx s v
                have hptl := putL_take_le e (k + 1) s v
                have hptk := putL_take_le e k s v
                have HPS := Lib.hid hps
                clear hcs hx hps
                generalize hpk : putL (e.take k) s v = pk at HPS hptk HO
                clear hpk
                have hpl : pk.length ≤ 200 := by omega
                clear hptk
                by_cases hv : isVar s x = true
                · have h8 : (x.op == 8) = true := by unfold isVar at hv; simp at hv; simp [hv.1]
                  have hss : (x.s.toList == s.toList) = true := by unfold isVar at hv; simp at hv; simp [hv.2]
                  obtain ⟨bv, ov, rfl, hbv, _⟩ := (HSV.out.below hbr).at_ hlv.2
                  have HFV : Hid (∀ j u, (flat v)[j]? = some u → wr.cell? ((⟨bv, ov, none⟩ : Addr).add j) = some u) := fun j u hu => (HSV.out.below hbr).flat j u hu
                  rw [if_pos hv] at HPS
                  clear hv
                  go_wp2_with (at_builtin; refine wpList_append_own _ rfl (.tmp 76) (.tmp 77) 30 rfl w.heap.size 46 i0 _ 4 48 Tryd.underlying30 hi hz0 hz1 hz2 rfl (by omega) u11 pk.length (flat pk) rfl HO.out ⟨bv, ov, none⟩ v.length cv (flat v) rfl (flat_len v) HFV.out (flat_one_cell v) (by unfold maxLen; omega) (by omega) (by omega) ?_; intro v1 w1 hown1 hgrow1 _)
                  have hb1 : Below w.heap.size w w1 := hbr.grown hgrow1 hbr.size (fun q hq => (HO.out.lt q hq).1)
                  have hp := HPS.out
                  exact ⟨⟨k + 1, by go_num, by omega, by rw [hp, List.length_append, flat_append]; exact hown1, hb1⟩, by simp [intOf]; omega⟩
                · have hv0 : isVar s x = false := by simpa using hv
                  have HFV : Hid (∀ j u, (flat [x])[j]? = some u → (wr.alloc (.cells #[.int .i64 x.op, .int .i64 x.n, .string x.s, .string x.t] 46)).cell? ((⟨wr.heap.size, 0, none⟩ : Addr).add j) = some u) := by
                    exact fun j u hu => new_flat _ _ x _ rfl j u hu
                  rw [if_neg hv] at HPS
                  by_cases h8 : (x.op == 8) = true
                  · have hss : (x.s.toList == s.toList) = false := by unfold isVar at hv0; rw [h8] at hv0; simpa using hv0
                    clear hv hv0
                    go_wp2_with (at_builtin; refine wpList_append_own _ rfl (.tmp 79) (.tmp 84) 30 rfl w.heap.size 46 i0 _ 4 48 Tryd.underlying30 hi hz0 hz1 hz2 rfl (by omega) u11 pk.length (flat pk) rfl (HO.out.alloc _) ⟨wr.heap.size, 0, none⟩ 1 1 (flat [x]) rfl (flat_len [x]) HFV.out (flat_one_cell [x]) (by unfold maxLen; omega) (by omega) (by simp; omega) ?_; intro v1 w1 hown1 hgrow1 _)
                    have hb1 : Below w.heap.size w w1 := (hbr.alloc hbr.size _).grown hgrow1 (by simp; omega) (fun q hq => (HO.out.lt q hq).1)
                    have hp := HPS.out
                    exact ⟨⟨k + 1, by go_num, by omega, by rw [hp, List.length_append, flat_append]; exact hown1, hb1⟩, by simp [intOf]; omega⟩
                  · have h8' : (x.op == 8) = false := by simpa using h8
                    clear hv hv0 h8
                    go_wp2_with (at_builtin; refine wpList_append_own _ rfl (.tmp 79) (.tmp 84) 30 rfl w.heap.size 46 i0 _ 4 48 Tryd.underlying30 hi hz0 hz1 hz2 rfl (by omega) u11 pk.length (flat pk) rfl (HO.out.alloc _) ⟨wr.heap.size, 0, none⟩ 1 1 (flat [x]) rfl (flat_len [x]) HFV.out (flat_one_cell [x]) (by unfold maxLen; omega) (by omega) (by simp; omega) ?_; intro v1 w1 hown1 hgrow1 _)
                    have hb1 : Below w.heap.size w w1 := (hbr.alloc hbr.size _).grown hgrow1 (by simp; omega) (fun q hq => (HO.out.lt q hq).1)
                    have hp := HPS.out
                    exact ⟨⟨k + 1, by go_num, by omega, by rw [hp, List.length_append, flat_append]; exact hown1, hb1⟩, by simp [intOf]; omega⟩
              · have HPK : Hid (putL (e.take k) s v = putL e s v) := by show _ = _; rw [List.take_of_length_le (by omega)]
                rw [HPK.out] at HO
                obtain ⟨A1, c1, hv1, hcc1, hcm1, hs1⟩ := own_form (xs := putL e s v) (ys := []) (by rw [show flat [] = [] from rfl, List.append_nil]; exact HO.out)
                rw [List.append_nil] at hs1
                have HV1 := Lib.hid hv1
                have HS1 := Lib.hid hs1
                clear hv1 hs1
                go_wp2_with fail
                go_ret2
                rw [HV.out, HV1.out]
                exact ⟨A1, c1, rfl, hcc1, hcm1, HS1.out, hbr⟩
    · have hne : (treeErr v != 0) = true := by simp [h1]
      have HV : Hid (putV e s v = ([], treeErr v)) := by show _ = _; simp [putV, h0, h1]
      rw [h0] at HF
      clear h0 h1 hsl hslv hok hokv
      go_enter Tryd.func8, Tryd.ntmps8
      go_wp2_with fail
      refine Calls.mono HF.out ?_
      rintro r w1 ⟨rfl, hb1⟩
      go_wp2_with fail
      refine Calls.mono (HFV.out _ hb1) ?_
      rintro r w2 ⟨rfl, hb2⟩
      go_wp2_with fail
      go_ret2
      rw [HV.out]
      exact ⟨none, 0, rfl, Nat.le_refl _, by omega, NdSl.nil _ _ _, hb1.trans (hb2.mono hb1.size)⟩
  · have hne : (treeErr e == 0) = false := by simp [h0]
    have hne' : (treeErr e != 0) = true := by simp [h0]
    have HV : Hid (putV e s v = ([], treeErr e)) := by show _ = _; simp [putV, h0]
    clear h0 hsl hslv hok hokv
    go_enter Tryd.func8, Tryd.ntmps8
    go_wp2_with fail
    refine Calls.mono HF.out ?_
    rintro r w1 ⟨rfl, hb1⟩
    go_wp2_with fail
    go_ret2
    rw [HV.out]
    exact ⟨none, 0, rfl, Nat.le_refl _, by omega, NdSl.nil _ _ _, hb1⟩
end Go.Proofs.YtcghjnpllobdmaaDoor
