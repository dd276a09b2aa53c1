/-
  THE WALKS: tree.Vars; the laws' comparisons.
-/
import Derived.Test.YtcghjnpllobdmaaDoorTree5
import Derived.Test.YtcghjnpllobdmaaDoorVarsP
namespace Go.Proofs.YtcghjnpllobdmaaDoor
open Go.RowKit Go.Sort

theorem string_info : (Tryd.prog.info? 9).map (fun i => (i.zero, i.size, i.bytes)) = some (some (.string ⟨#[]⟩), 1, 16) := by kernel_rfl
/-- A list of strings that a call hands back, and an error. -/
def StrsBack (w : World) (r : Ending) (w' : World) (ss : List (List UInt8)) (k : Int) : Prop :=
  ∃ A c, r = .returned (.tuple #[.slice A ss.length c, errV k]) ∧ ss.length ≤ c ∧ c ≤ 9223372036854775807 ∧ StrSl w' w'.heap.size A ss ∧ Below w.heap.size w w'

set_option maxRecDepth 100000 in
set_option maxHeartbeats 1600000 in
theorem tree_Vars (e : List Nd) (A : Option Addr) (c : Nat) (w : World) (hc : e.length ≤ c) (hcm : c ≤ 9223372036854775807) (hok : NdOk e) (hsl : NdSl w w.heap.size A e) :
    Calls Tryd.prog 19 #[.slice A e.length c] w fun r w' => StrsBack w r w' (varsR e) (treeErr e) := by
  obtain ⟨i0, hi, hz0, hz1, hz2⟩ := info_parts string_info
  have HCH := Lib.hid (tree_Check e A c w hc hcm hok hsl)
  by_cases h0 : treeErr e = 0
  · have hle := tree_len h0
    have HR : Hid (varsR e = varsL e) := by show _ = _; simp [varsR, h0]
    rw [h0] at HCH ⊢
    have HS := Lib.hid hsl
    clear h0 hsl hok
    go_enter Tryd.func19, Tryd.ntmps19
    go_wp2_with fail
    refine HCH.out.mono ?_
    rintro r w1 ⟨rfl, hb1⟩
    go_wp2_with fail
    go_loopw [5, 15] (fun out kk wr => ∃ k : Nat, kk = .int .i64 k ∧ k ≤ e.length ∧ Hid (wr.ownsRow w.heap.size 9 1 out (varNames (e.take k)).length ((varNames (e.take k)).map encStr)) ∧ Below w.heap.size w wr)
      (fun _ kk _ => e.length - (intOf kk).toNat)
    case atStart => exact ⟨0, rfl, by omega, by simpa [varNames, Hid] using World.ownsRow_nil _ _ _ _, hb1⟩
    case round =>
      obtain ⟨k, rfl, hk, HO, hbr⟩ := hrel
      have hzr := hbr.size
      by_cases hlt : k < e.length
      · obtain ⟨b, o, rfl, hb, hcs⟩ := (HS.out.below hbr).at_ hlt
        obtain ⟨x, hx⟩ : ∃ x, e[k]? = some x := ⟨_, List.getElem?_eq_getElem hlt⟩
        obtain ⟨d0, d1, d2, d3⟩ := hcs k x hx
        have HVS := Lib.hid (varNames_step hx)
        have hvl : (varNames (e.take k)).length ≤ 200 := Nat.le_trans (varNames_len _) (by rw [List.length_take]; omega)
        clear hcs hx
        generalize hpk : varNames (e.take k) = pk at HVS hvl HO
        clear hpk
        by_cases h8 : (x.op == 8) = true
        · rw [if_pos h8] at HVS
          go_wp2_with (at_builtin; refine wpList_append_own _ rfl (.tmp 22) (.tmp 25) 50 rfl w.heap.size 9 i0 _ 1 16 Tryd.underlying50 hi hz0 hz1 hz2 rfl (by omega) u5 pk.length (pk.map encStr) rfl ((HO.out.alloc _).alloc _) ⟨wr.heap.size + 1, 0, none⟩ 1 1 [.string x.s] rfl rfl (new_one _ _ _ _ (by simp)) (by intro u hu; simp at hu; subst hu; rfl) (by unfold maxLen; omega) (by omega) (by simp; omega) ?_; intro v1 w1 hown1 hgrow1 _)
          have hb2 : RowKit.Below w.heap.size w w1 := ((hbr.alloc hbr.size _).alloc (by simp; omega) _).grown hgrow1 (by simp; omega) (fun q hq => (HO.out.lt q hq).1)
          have hv := HVS.out
          exact ⟨⟨k + 1, by go_num, by omega, by rw [hv, List.map_append, List.length_append]; simpa [encStr_of, Hid] using hown1, hb2⟩, by simp [intOf]; omega⟩
        · rw [if_neg h8] at HVS
          have h8' : (x.op == 8) = false := by simpa using h8
          clear h8
          go_wp2_with fail
          have hv := HVS.out
          rw [List.append_nil] at hv
          exact ⟨⟨k + 1, by go_num, by omega, by rw [hv]; exact Hid.out (HO.out.alloc _), hbr.alloc hbr.size _⟩, by simp [intOf]; omega⟩
      · have HTK : Hid (varNames (e.take k) = varNames e) := by show _ = _; rw [List.take_of_length_le (by omega)]
        rw [HTK.out] at HO
        have hvl : (varNames e).length ≤ 200 := Nat.le_trans (varNames_len _) hle.1
        have HSO := Lib.hid (sort_own HO.out (by omega))
        go_wp2_with fail
        refine HSO.out.mono ?_
        rintro r w2 ⟨rfl, ho2, hg2⟩
        have hw2 : RowKit.Below w.heap.size w w2 := hbr.grown hg2 hbr.size (fun q hq => (HO.out.lt q hq).1)
        rw [← sorted_len] at ho2
        have HCO := Lib.hid (compact_own ho2)
        have HL := Lib.hid (fun q hq => (ho2.lt q hq).1)
        clear ho2 hg2
        go_wp2_with fail
        refine HCO.out.mono ?_
        rintro r w3 ⟨A3, c3, rfl, hcc, hcm3, hs3, hg3⟩
        have hw3 : RowKit.Below w.heap.size w w3 := hw2.grown hg3 hw2.size HL.out
        go_wp2_with fail
        go_ret2
        rw [HR.out]
        exact ⟨A3, c3, rfl, hcc, hcm3, hs3, hw3⟩
  · have hne : (treeErr e != 0) = true := by simp [h0]
    have HR : Hid (varsR e = []) := by show _ = _; simp [varsR, h0]
    clear h0 hsl hok
    go_enter Tryd.func19, Tryd.ntmps19
    go_wp2_with fail
    refine HCH.out.mono ?_
    rintro r w1 ⟨rfl, hb1⟩
    go_wp2_with fail
    go_ret2
    rw [HR.out]
    exact ⟨none, 0, rfl, Nat.le_refl _, by omega, StrSl.nil _ _ _, hb1⟩

set_option maxHeartbeats 800000 in
theorem same_Nodes (xs : List Nd) (A1 A2 : Option Addr) (c1 c2 : Nat) (w : World) (h1 : NdSl w w.heap.size A1 xs) (h2 : NdSl w w.heap.size A2 xs) (l1 : xs.length ≤ 9223372036854775807) :
    Calls Tryd.prog 11 #[.slice A1 xs.length c1, .slice A2 xs.length c2] w fun r w' => r = .returned (.bool true) ∧ RowKit.Below w.heap.size w w' := by
  have H1 := Lib.hid h1
  have H2 := Lib.hid h2
  have hne : ((xs.length : Int) != (xs.length : Int)) = false := by simp
  clear h1 h2
  go_enter Tryd.func11, Tryd.ntmps11
  go_wp2_with fail
  go_loopw [5] (fun kk wr => ∃ k : Nat, kk = .int .i64 k ∧ k ≤ xs.length ∧ RowKit.Below w.heap.size w wr) (fun kk _ => xs.length - (intOf kk).toNat)
  case atStart => exact ⟨0, rfl, by omega, RowKit.Below.refl _ _⟩
  case round =>
    obtain ⟨k, rfl, hk, hbr⟩ := hrel
    by_cases hlt : k < xs.length
    · obtain ⟨b, o, rfl, hb, hcs⟩ := (H1.out.below hbr).at_ hlt
      obtain ⟨b2, o2, rfl, hb2, hcs2⟩ := (H2.out.below hbr).at_ hlt
      obtain ⟨x, hx⟩ : ∃ x, xs[k]? = some x := ⟨_, List.getElem?_eq_getElem hlt⟩
      obtain ⟨d0, d1, d2, d3⟩ := hcs k x hx
      obtain ⟨f0, f1, f2, f3⟩ := hcs2 k x hx
      clear hcs hcs2 hx
      go_wp2_with fail
      go_quiet (fail)
      go_wp2_with fail
      exact ⟨⟨k + 1, by go_num, by omega, below_drewN hbr _⟩, by simp [intOf]; omega⟩
    · go_wp2_with fail
      go_ret
      exact ⟨rfl, hbr⟩

set_option maxHeartbeats 800000 in
theorem same_Texts (ss : List (List UInt8)) (A1 A2 : Option Addr) (c1 c2 : Nat) (w : World) (h1 : StrSl w w.heap.size A1 ss) (h2 : StrSl w w.heap.size A2 ss) (l1 : ss.length ≤ 9223372036854775807) :
    Calls Tryd.prog 20 #[.slice A1 ss.length c1, .slice A2 ss.length c2] w fun r w' => r = .returned (.bool true) ∧ RowKit.Below w.heap.size w w' := by
  have H1 := Lib.hid h1
  have H2 := Lib.hid h2
  have hne : ((ss.length : Int) != (ss.length : Int)) = false := by simp
  clear h1 h2
  go_enter Tryd.func20, Tryd.ntmps20
  go_wp2_with fail
  go_loopw [5] (fun kk wr => ∃ k : Nat, kk = .int .i64 k ∧ k ≤ ss.length ∧ RowKit.Below w.heap.size w wr) (fun kk _ => ss.length - (intOf kk).toNat)
  case atStart => exact ⟨0, rfl, by omega, RowKit.Below.refl _ _⟩
  case round =>
    obtain ⟨k, rfl, hk, hbr⟩ := hrel
    by_cases hlt : k < ss.length
    · obtain ⟨b, o, rfl, hb, hcs⟩ := (H1.out.below hbr).at_ hlt
      obtain ⟨b2, o2, rfl, hb2, hcs2⟩ := (H2.out.below hbr).at_ hlt
      obtain ⟨x, hx⟩ : ∃ x, ss[k]? = some x := ⟨_, List.getElem?_eq_getElem hlt⟩
      have d0 := hcs k x hx
      have f0 := hcs2 k x hx
      clear hcs hcs2 hx
      go_wp2_with fail
      go_quiet (fail)
      go_wp2_with fail
      exact ⟨⟨k + 1, by go_num, by omega, below_drewN hbr _⟩, by simp [intOf]; omega⟩
    · go_wp2_with fail
      go_ret
      exact ⟨rfl, hbr⟩

end Go.Proofs.YtcghjnpllobdmaaDoor
