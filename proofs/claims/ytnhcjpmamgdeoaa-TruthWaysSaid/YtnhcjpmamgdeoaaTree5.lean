/-
  THE WALKS: tree.Put.
-/
import Derived.Test.YtnhcjpmamgdeoaaTree4
import Derived.Test.YtnhcjpmamgdeoaaP
namespace Go.Proofs.Ytnhcjpmamgdeoaa
open Go.RowKit

theorem node_info : (Try.prog.info? 42).map (fun i => (i.zero, i.size, i.bytes)) = some (some (.agg #[.int .i64 0, .int .i64 0, .string ⟨#[]⟩, .string ⟨#[]⟩]), 4, 48) := by kernel_rfl

set_option maxRecDepth 100000 in
set_option maxHeartbeats 1600000 in
theorem tree_Put (e v : List Nd) (s : ByteArray) (A Av : Option Addr) (c cv : Nat) (w : World) (hc : e.length ≤ c) (hcm : c ≤ 9223372036854775807) (hok : NdOk e) (hsl : NdSl w w.heap.size A e)
    (hcv : v.length ≤ cv) (hcvm : cv ≤ 9223372036854775807) (hokv : NdOk v) (hslv : NdSl w w.heap.size Av v) :
    Calls Try.prog 11 #[.slice A e.length c, .string s, .slice Av v.length cv] w fun r w' => NdsBack w r w' (putV e s v).1 (putV e s v).2 := by
  obtain ⟨i0, hi, hz0, hz1, hz2⟩ := info_parts node_info
  have hchk := fun W (hW : Below w.heap.size w W) => tree_Check e A c W hc hcm hok ((hsl.below hW).more hW.size)
  have hchkv := fun W (hW : Below w.heap.size w W) => tree_Check v Av cv W hcv hcvm hokv ((hslv.below hW).more hW.size)
  have HCH := Lib.hid hchk
  have HCV := Lib.hid hchkv
  clear hchk hchkv hok hokv
  by_cases h0 : treeErr e = 0
  · have hne : (treeErr e != 0) = false := by simp [h0]
    by_cases h1 : treeErr v = 0
    · have hnv : (treeErr v != 0) = false := by simp [h1]
      have hle := tree_len h0
      have hlv := tree_len h1
      have HV : Hid (putV e s v = if 200 < (putL e s v).length then ([], 4) else (putL e s v, 0)) := by show _ = _; simp [putV, h0, h1]
      have HS := Lib.hid hsl
      have HSV := Lib.hid hslv
      clear h0 h1 hsl hslv
      go_enter Try.func11, Try.ntmps11
      go_wp2_with fail
      refine (HCH.out _ (Below.refl _ _)).mono ?_
      rintro r w1 ⟨rfl, hb1⟩
      go_wp2_with fail
      refine (HCV.out _ hb1).mono ?_
      rintro r w2 ⟨rfl, hb2⟩
      have hw2 : Below w.heap.size w w2 := hb1.trans (hb2.mono hb1.size)
      clear hb1 hb2
      go_wp2_with fail
      go_loopw [10, 25] (fun out kk wr => ∃ k : Nat, kk = .int .i64 k ∧ k ≤ e.length ∧ (putL (e.take k) s v).length ≤ 200 ∧ Hid (wr.ownsRow w.heap.size 42 4 out (putL (e.take k) s v).length (flat (putL (e.take k) s v))) ∧ Below w.heap.size w wr)
        (fun _ kk _ => e.length - (intOf kk).toNat)
      case atStart => exact ⟨0, rfl, by omega, by simp [putL], World.ownsRow_nil _ _ _ _, hw2⟩
      case round =>
        obtain ⟨k, rfl, hk, hpl, HO, hbr⟩ := hrel
        have hzr := hbr.size
        by_cases hlt : k < e.length
        · obtain ⟨b, o, rfl, hb, hcs⟩ := (HS.out.below hbr).at_ hlt
          obtain ⟨x, hx⟩ : ∃ x, e[k]? = some x := ⟨_, List.getElem?_eq_getElem hlt⟩
          obtain ⟨d0, d1, d2, d3⟩ := hcs k x hx
          have hps := putL_step hx s v
          have hptl := putL_take_le e (k + 1) s v
          have HPS := Lib.hid hps
          clear hcs hx hps
          generalize hpk : putL (e.take k) s v = pk at HPS hpl HO
          clear hpk
          by_cases hv : isVar s x = true
          · have h8 : (x.op == 8) = true := by unfold isVar at hv; simp at hv; simp [hv.1]
            have hss : (x.s.toList == s.toList) = true := by unfold isVar at hv; simp at hv; simp [hv.2]
            obtain ⟨bv, ov, rfl, hbv, _⟩ := (HSV.out.below hbr).at_ hlv.2
            have HFV : Hid (∀ O j u, (flat v)[j]? = some u → (wr.alloc O).cell? ((⟨bv, ov, none⟩ : Addr).add j) = some u) := (HSV.out.below hbr).flat_alloc (by omega)
            rw [if_pos hv] at HPS
            clear hv
            by_cases hbig : 200 < pk.length + v.length
            · go_wp2_with (at_builtin; refine wpList_append_own _ rfl (.tmp 38) (.tmp 39) 22 rfl w.heap.size 42 i0 _ 4 48 Try.underlying22 hi hz0 hz1 hz2 rfl (by omega) u10 pk.length (flat pk) rfl (HO.out.alloc _) ⟨bv, ov, none⟩ v.length cv (flat v) rfl (flat_len v) (HFV.out _) (flat_one_cell v) (by unfold maxLen; omega) (by omega) (by simp; omega) ?_; intro v1 w1 hown1 hgrow1 _; obtain ⟨A1, c1, hv1, hcc1, hcm1, hs1⟩ := own_form hown1)
              have HO1 : Hid (w1.ownsRow w.heap.size 42 4 v1 (pk.length + v.length) (flat (pk ++ v))) := by rw [flat_append]; exact hown1
              have hb1 : Below w.heap.size w w1 := (hbr.alloc hbr.size _).grown hgrow1 (by simp; omega) (fun q hq => (HO.out.lt q hq).1)
              have HO2 : Hid (w1.ownsRow w.heap.size 42 4 (.slice A1 (pk.length + v.length) c1) (pk.length + v.length) (flat (pk ++ v))) := by rw [← hv1]; exact HO1.out
              clear hown1 hgrow1 hv1 HFV HO1
              go_ret2
              have hp := HPS.out
              have hl : 200 < (putL e s v).length := by rw [hp, List.length_append] at hptl; omega
              rw [HV.out, if_pos hl]
              exact NdsBack.none (k := 4) hb1
            · go_wp2_with (at_builtin; refine wpList_append_own _ rfl (.tmp 38) (.tmp 39) 22 rfl w.heap.size 42 i0 _ 4 48 Try.underlying22 hi hz0 hz1 hz2 rfl (by omega) u10 pk.length (flat pk) rfl (HO.out.alloc _) ⟨bv, ov, none⟩ v.length cv (flat v) rfl (flat_len v) (HFV.out _) (flat_one_cell v) (by unfold maxLen; omega) (by omega) (by simp; omega) ?_; intro v1 w1 hown1 hgrow1 _; obtain ⟨A1, c1, hv1, hcc1, hcm1, hs1⟩ := own_form hown1)
              have HO1 : Hid (w1.ownsRow w.heap.size 42 4 v1 (pk.length + v.length) (flat (pk ++ v))) := by rw [flat_append]; exact hown1
              have hb1 : Below w.heap.size w w1 := (hbr.alloc hbr.size _).grown hgrow1 (by simp; omega) (fun q hq => (HO.out.lt q hq).1)
              have HO2 : Hid (w1.ownsRow w.heap.size 42 4 (.slice A1 (pk.length + v.length) c1) (pk.length + v.length) (flat (pk ++ v))) := by rw [← hv1]; exact HO1.out
              clear hown1 hgrow1 hv1 HFV HO1
              have hp := HPS.out
              exact ⟨⟨k + 1, by go_num, by omega, by rw [hp, List.length_append]; omega, by rw [hp, List.length_append]; exact HO2, hb1⟩, by simp [intOf]; omega⟩
          · have hv0 : isVar s x = false := by simpa using hv
            have HFV : Hid (∀ j u, (flat [x])[j]? = some u → ((wr.alloc (.cells #[.int .i64 x.op, .int .i64 x.n, .string x.s, .string x.t] 42)).alloc (.cells #[.int .i64 x.op, .int .i64 x.n, .string x.s, .string x.t] 42)).cell? ((⟨wr.heap.size + 1, 0, none⟩ : Addr).add j) = some u) := by
              exact fun j u hu => new_flat _ _ x _ (by simp) j u hu
            rw [if_neg hv] at HPS
            by_cases h8 : (x.op == 8) = true
            · have hss : (x.s.toList == s.toList) = false := by unfold isVar at hv0; rw [h8] at hv0; simpa using hv0
              clear hv hv0
              by_cases hbig : 200 < pk.length + 1
              · go_wp2_with (at_builtin; refine wpList_append_own _ rfl (.tmp 41) (.tmp 43) 22 rfl w.heap.size 42 i0 _ 4 48 Try.underlying22 hi hz0 hz1 hz2 rfl (by omega) u10 pk.length (flat pk) rfl ((HO.out.alloc _).alloc _) ⟨wr.heap.size + 1, 0, none⟩ 1 1 (flat [x]) rfl (flat_len [x]) HFV.out (flat_one_cell [x]) (by unfold maxLen; omega) (by omega) (by simp; omega) ?_; intro v1 w1 hown1 hgrow1 _; obtain ⟨A1, c1, hv1, hcc1, hcm1, hs1⟩ := own_form hown1)
                have HO1 : Hid (w1.ownsRow w.heap.size 42 4 v1 (pk.length + 1) (flat (pk ++ [x]))) := by rw [flat_append]; exact hown1
                have hb1 : Below w.heap.size w w1 := ((hbr.alloc hbr.size _).alloc (by simp; omega) _).grown hgrow1 (by simp; omega) (fun q hq => (HO.out.lt q hq).1)
                have HO2 : Hid (w1.ownsRow w.heap.size 42 4 (.slice A1 (pk.length + 1) c1) (pk.length + 1) (flat (pk ++ [x]))) := by rw [← hv1]; exact HO1.out
                clear hown1 hgrow1 hv1 HFV HO1
                go_ret2
                have hp := HPS.out
                have hl : 200 < (putL e s v).length := by rw [hp, List.length_append, List.length_singleton] at hptl; omega
                rw [HV.out, if_pos hl]
                exact NdsBack.none (k := 4) hb1
              · go_wp2_with (at_builtin; refine wpList_append_own _ rfl (.tmp 41) (.tmp 43) 22 rfl w.heap.size 42 i0 _ 4 48 Try.underlying22 hi hz0 hz1 hz2 rfl (by omega) u10 pk.length (flat pk) rfl ((HO.out.alloc _).alloc _) ⟨wr.heap.size + 1, 0, none⟩ 1 1 (flat [x]) rfl (flat_len [x]) HFV.out (flat_one_cell [x]) (by unfold maxLen; omega) (by omega) (by simp; omega) ?_; intro v1 w1 hown1 hgrow1 _; obtain ⟨A1, c1, hv1, hcc1, hcm1, hs1⟩ := own_form hown1)
                have HO1 : Hid (w1.ownsRow w.heap.size 42 4 v1 (pk.length + 1) (flat (pk ++ [x]))) := by rw [flat_append]; exact hown1
                have hb1 : Below w.heap.size w w1 := ((hbr.alloc hbr.size _).alloc (by simp; omega) _).grown hgrow1 (by simp; omega) (fun q hq => (HO.out.lt q hq).1)
                have HO2 : Hid (w1.ownsRow w.heap.size 42 4 (.slice A1 (pk.length + 1) c1) (pk.length + 1) (flat (pk ++ [x]))) := by rw [← hv1]; exact HO1.out
                clear hown1 hgrow1 hv1 HFV HO1
                have hp := HPS.out
                exact ⟨⟨k + 1, by go_num, by omega, by rw [hp, List.length_append, List.length_singleton]; omega, by rw [hp, List.length_append, List.length_singleton]; exact HO2, hb1⟩, by simp [intOf]; omega⟩
            · have h8' : (x.op == 8) = false := by simpa using h8
              clear hv hv0 h8
              by_cases hbig : 200 < pk.length + 1
              · go_wp2_with (at_builtin; refine wpList_append_own _ rfl (.tmp 41) (.tmp 43) 22 rfl w.heap.size 42 i0 _ 4 48 Try.underlying22 hi hz0 hz1 hz2 rfl (by omega) u10 pk.length (flat pk) rfl ((HO.out.alloc _).alloc _) ⟨wr.heap.size + 1, 0, none⟩ 1 1 (flat [x]) rfl (flat_len [x]) HFV.out (flat_one_cell [x]) (by unfold maxLen; omega) (by omega) (by simp; omega) ?_; intro v1 w1 hown1 hgrow1 _; obtain ⟨A1, c1, hv1, hcc1, hcm1, hs1⟩ := own_form hown1)
                have HO1 : Hid (w1.ownsRow w.heap.size 42 4 v1 (pk.length + 1) (flat (pk ++ [x]))) := by rw [flat_append]; exact hown1
                have hb1 : Below w.heap.size w w1 := ((hbr.alloc hbr.size _).alloc (by simp; omega) _).grown hgrow1 (by simp; omega) (fun q hq => (HO.out.lt q hq).1)
                have HO2 : Hid (w1.ownsRow w.heap.size 42 4 (.slice A1 (pk.length + 1) c1) (pk.length + 1) (flat (pk ++ [x]))) := by rw [← hv1]; exact HO1.out
                clear hown1 hgrow1 hv1 HFV HO1
                go_ret2
                have hp := HPS.out
                have hl : 200 < (putL e s v).length := by rw [hp, List.length_append, List.length_singleton] at hptl; omega
                rw [HV.out, if_pos hl]
                exact NdsBack.none (k := 4) hb1
              · go_wp2_with (at_builtin; refine wpList_append_own _ rfl (.tmp 41) (.tmp 43) 22 rfl w.heap.size 42 i0 _ 4 48 Try.underlying22 hi hz0 hz1 hz2 rfl (by omega) u10 pk.length (flat pk) rfl ((HO.out.alloc _).alloc _) ⟨wr.heap.size + 1, 0, none⟩ 1 1 (flat [x]) rfl (flat_len [x]) HFV.out (flat_one_cell [x]) (by unfold maxLen; omega) (by omega) (by simp; omega) ?_; intro v1 w1 hown1 hgrow1 _; obtain ⟨A1, c1, hv1, hcc1, hcm1, hs1⟩ := own_form hown1)
                have HO1 : Hid (w1.ownsRow w.heap.size 42 4 v1 (pk.length + 1) (flat (pk ++ [x]))) := by rw [flat_append]; exact hown1
                have hb1 : Below w.heap.size w w1 := ((hbr.alloc hbr.size _).alloc (by simp; omega) _).grown hgrow1 (by simp; omega) (fun q hq => (HO.out.lt q hq).1)
                have HO2 : Hid (w1.ownsRow w.heap.size 42 4 (.slice A1 (pk.length + 1) c1) (pk.length + 1) (flat (pk ++ [x]))) := by rw [← hv1]; exact HO1.out
                clear hown1 hgrow1 hv1 HFV HO1
                have hp := HPS.out
                exact ⟨⟨k + 1, by go_num, by omega, by rw [hp, List.length_append, List.length_singleton]; omega, by rw [hp, List.length_append, List.length_singleton]; exact HO2, hb1⟩, by simp [intOf]; omega⟩
        · have HPK : Hid (putL (e.take k) s v = putL e s v) := by show _ = _; rw [List.take_of_length_le (by omega)]
          rw [HPK.out] at HO hpl
          obtain ⟨A1, c1, hv1, hcc1, hcm1, hs1⟩ := own_form (xs := putL e s v) (ys := []) (by rw [show flat [] = [] from rfl, List.append_nil]; exact HO.out)
          rw [List.append_nil] at hs1
          have HV1 := Lib.hid hv1
          have HS1 := Lib.hid hs1
          clear hv1 hs1
          go_wp2_with fail
          go_ret2
          rw [HV.out, if_neg (by omega), HV1.out]
          exact ⟨A1, c1, rfl, hcc1, hcm1, HS1.out, hbr⟩
    · have HV : Hid (putV e s v = ([], treeErr v)) := by show _ = _; simp [putV, h0, h1]
      have hnv : (treeErr v != 0) = true := by simp [h1]
      clear h0 h1 hsl hslv
      go_enter Try.func11, Try.ntmps11
      go_wp2_with fail
      refine (HCH.out _ (Below.refl _ _)).mono ?_
      rintro r w1 ⟨rfl, hb1⟩
      go_wp2_with fail
      refine (HCV.out _ hb1).mono ?_
      rintro r w2 ⟨rfl, hb2⟩
      go_wp2_with fail
      go_ret2
      rw [HV.out]
      exact NdsBack.none (hb1.trans (hb2.mono hb1.size))
  · have HV : Hid (putV e s v = ([], treeErr e)) := by show _ = _; simp [putV, h0]
    have hne : (treeErr e != 0) = true := by simp [h0]
    clear h0 hsl hslv
    go_enter Try.func11, Try.ntmps11
    go_wp2_with fail
    refine (HCH.out _ (Below.refl _ _)).mono ?_
    rintro r w1 ⟨rfl, hb1⟩
    go_wp2_with fail
    go_ret2
    rw [HV.out]
    exact NdsBack.none hb1
end Go.Proofs.Ytnhcjpmamgdeoaa
