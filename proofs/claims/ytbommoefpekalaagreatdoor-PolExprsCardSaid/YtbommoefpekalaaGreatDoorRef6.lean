/-
  THE WALK of the reference: Names.
-/
import Derived.Test.YtbommoefpekalaaGreatDoorRef1
import Derived.Test.YtbommoefpekalaaGreatDoorSameN
import Derived.Test.YtbommoefpekalaaGreatDoorP
import Derived.Test.YtbommoefpekalaaGreatDoorRef1b
namespace Go.Proofs.YtbommoefpekalaaGreatDoor
open Go.RowKit Go.Sort

theorem own_below {B k n : Nat} {e : TypeId} {v : Value} {xs : List Value} {w w' : World} (h : w.ownsRow B e k v n xs) (hb : RowKit.Below w.heap.size w w') : w'.ownsRow B e k v n xs :=
  h.kept (row := none) ⟨hb.os, hb.tape, hb.output, hb.size, fun k hk _ => hb.block k hk⟩ (by cases hv : v.ownBlock with | none => exact .inl rfl | some g => exact .inr (by simp))
theorem own_strs {w : World} {base : Nat} {v : Value} {n : Nat} {ss : List (List UInt8)} (h : w.ownsRow base 9 1 v n (ss.map encStr)) (hn : n = ss.length) :
    ∃ A c, v = .slice A n c ∧ n ≤ c ∧ c ≤ 9223372036854775807 ∧ StrSl w w.heap.size A ss := by
  subst hn
  rcases h.2 with ⟨hv, h0⟩ | ⟨g, cap, cur, hv, hbase, hb, h1, h2, h3, h4⟩
  · have : ss = [] := List.eq_nil_of_length_eq_zero h0
    subst this
    exact ⟨none, 0, hv, by simp, by omega, StrSl.nil _ _ _⟩
  · subst hv
    unfold maxLen at h2
    refine ⟨_, cap, rfl, h1, h2, fun _ => ⟨g, 0, rfl, (Array.getElem?_eq_some_iff.1 hb).1, fun i l hl => ?_⟩⟩
    have hi := (List.getElem?_eq_some_iff.1 hl).1
    rw [Nat.zero_add, h.cellAt i (by omega), List.getElem?_map, hl]; rfl
def lenSl : Value → Nat
  | .slice _ n _ => n
  | _ => 0
theorem nextOf_var {e : List Nd} {k : Nat} {x : Nd} (hx : e[k]? = some x) (last : List UInt8) :
    nextOf (varNames (e.take (k + 1))) last = if x.op == 8 then nxt last (nextOf (varNames (e.take k)) last) x.s.toList else nextOf (varNames (e.take k)) last := by
  rw [varNames_step hx]
  split
  · unfold nextOf; rw [List.foldl_append]; rfl
  · rw [List.append_nil]

set_option maxRecDepth 100000 in
set_option maxHeartbeats 3200000 in
theorem r2_Names (e : List Nd) (A : Option Addr) (c : Nat) (w : World) (h0 : treeErr e = 0) (hok : NdOk e) (hsl : NdSl w w.heap.size A e) :
    Calls Tryz.prog 36 #[.slice A e.length c] w fun r w' => ∃ A' c', r = .returned (.slice A' (varsL e).length c') ∧ StrSl w' w'.heap.size A' (varsL e) ∧ RowKit.Below w.heap.size w w' := by
  obtain ⟨i0, hi, hz0, hz1, hz2⟩ := info_parts string_info
  have hle := tree_len h0
  have HNE := Lib.hid (varNames_ne h0)
  have HS := Lib.hid hsl
  have HOK := Lib.hid hok
  have hvl := varsL_len e
  clear h0 hsl hok
  go_enter Tryz.func36, Tryz.ntmps36
  go_wp2_with fail
  go_loopw [3, 4] (fun out last wr => ∃ k : Nat, ∃ lb : ByteArray, ∃ A1 c1, out = .slice A1 k c1 ∧ k ≤ (varsL e).length ∧ last = .string lb ∧ lb.size ≤ 140737488351232 ∧ Hid (lb.toList = if k = 0 then [] else (varsL e)[k - 1]?.getD []) ∧
      Hid (wr.ownsRow w.heap.size 9 1 (.slice A1 k c1) k (((varsL e).take k).map encStr)) ∧ RowKit.Below w.heap.size w wr)
    (fun out _ _ => (varsL e).length + 1 - lenSl out)
  case atStart => exact ⟨0, ⟨#[]⟩, none, 0, rfl, by omega, rfl, by decide, by simp [Hid, ByteArray.toList_eq], by simpa [Hid] using World.ownsRow_nil _ _ _ _, RowKit.Below.refl _ _⟩
  case round =>
    obtain ⟨k, lb, A1, c1, rfl, hk, rfl, hlb, HL, HO, hbr⟩ := hrel
    obtain ⟨wo, rfl⟩ : ∃ wo : World, wo = wr := ⟨_, rfl⟩
    go_wp2_with fail
    go_loopw [5, 6] (fun nx ii wr => ∃ q : Nat, ∃ nb : ByteArray, ii = .int .i64 q ∧ q ≤ e.length ∧ nx = .string nb ∧ nb.size ≤ 140737488351232 ∧ Hid (nb.toList = nextOf (varNames (e.take q)) lb.toList) ∧ RowKit.Below wo.heap.size wo wr)
      (fun _ ii _ => e.length - (intOf ii).toNat)
    case atStart => exact ⟨0, ⟨#[]⟩, rfl, by omega, rfl, by decide, by simp [Hid, ByteArray.toList_eq, varNames, nextOf], RowKit.Below.refl _ _⟩
    case round =>
      obtain ⟨q, nb, rfl, hq, rfl, hnb, HN, hbi⟩ := hrel
      have hwr : RowKit.Below w.heap.size w wr := hbr.trans (hbi.mono hbr.size)
      by_cases hlt : q < e.length
      · obtain ⟨b, o, rfl, hb, hcs⟩ := (HS.out.below hwr).at_ hlt
        obtain ⟨x, hx⟩ : ∃ x, e[q]? = some x := ⟨_, List.getElem?_eq_getElem hlt⟩
        obtain ⟨d0, d1, d2, d3⟩ := hcs q x hx
        have hxs := (HOK.out x (List.mem_of_getElem? hx)).1
        have HV := Lib.hid (nextOf_var hx lb.toList)
        have hbwr : b < wr.heap.size := Nat.lt_of_lt_of_le hb hwr.size
        clear hcs hx
        by_cases h8 : (x.op == 8) = true
        · rw [if_pos h8] at HV
          unfold nxt at HV
          rw [ByteArray.toList_eq (bs := x.s), ByteArray.toList_eq (bs := lb)] at HV
          have HT1 := Lib.hid (fun W => r1_Texts x.s lb W hxs hlb)
          generalize hm1 : Lib.compareBytes x.s.data.toList lb.data.toList = m1 at HV HT1
          by_cases h1 : 0 < m1
          · have HT2 := Lib.hid (fun W => r1_Texts x.s nb W hxs hnb)
            have hN := HN.out
            rw [ByteArray.toList_eq (bs := nb), ByteArray.toList_eq (bs := lb)] at hN
            rw [← hN] at HV
            generalize hm2 : Lib.compareBytes x.s.data.toList nb.data.toList = m2 at HV HT2
            have HM := Lib.hid hm1
            have HM2 := Lib.hid hm2
            clear hm1 hm2
            by_cases hne : nb.data.toList = []
            · have HV2 : Hid (x.s.toList = nextOf (varNames (e.take (q + 1))) lb.toList) := by show _ = _; rw [ByteArray.toList_eq (bs := x.s), ByteArray.toList_eq (bs := lb), HV.out, if_pos ⟨h1, .inl hne⟩]
              have hemp : nb.toList.isEmpty = true := by rw [ByteArray.toList_eq, hne]; rfl
              clear hne hN HV
              go_wp2_with fail
              refine Calls.mono (HT1.out _) ?_
              rintro r w1 ⟨rfl, hb1⟩
              obtain ⟨hcc, hff⟩ := bcell hb1
              go_wp2_with fail
              exact ⟨⟨q + 1, _, by go_num, by omega, rfl, hxs, HV2, hbi.trans (hb1.mono hbi.size)⟩, by simp [intOf]; omega⟩
            · have hemp : nb.toList.isEmpty = false := by rw [ByteArray.toList_eq]; cases hnd : nb.data.toList with | nil => exact absurd hnd hne | cons => rfl
              by_cases h2 : m2 < 0
              · have HV2 : Hid (x.s.toList = nextOf (varNames (e.take (q + 1))) lb.toList) := by show _ = _; rw [ByteArray.toList_eq (bs := x.s), ByteArray.toList_eq (bs := lb), HV.out, if_pos ⟨h1, .inr h2⟩]
                clear hne hN HV
                go_wp2_with fail
                refine Calls.mono (HT1.out _) ?_
                rintro r w1 ⟨rfl, hb1⟩
                obtain ⟨hcc, hff⟩ := bcell hb1
                have hs1 := hb1.size
                go_wp2_with fail
                refine Calls.mono (HT2.out _) ?_
                rintro r w2 ⟨rfl, hb2⟩
                obtain ⟨hcc2, hff2⟩ := bcell hb2
                have hbw1 : b < w1.heap.size := by omega
                go_wp2_with fail
                exact ⟨⟨q + 1, _, by go_num, by omega, rfl, hxs, HV2, (hbi.trans (hb1.mono hbi.size)).trans (hb2.mono (Nat.le_trans hbi.size hs1))⟩, by simp [intOf]; omega⟩
              · have HV2 : Hid (nb.toList = nextOf (varNames (e.take (q + 1))) lb.toList) := by show _ = _; rw [ByteArray.toList_eq (bs := nb), ByteArray.toList_eq (bs := lb), HV.out, if_neg (fun h => h.2.elim hne h2)]
                clear hne hN HV
                go_wp2_with fail
                refine Calls.mono (HT1.out _) ?_
                rintro r w1 ⟨rfl, hb1⟩
                obtain ⟨hcc, hff⟩ := bcell hb1
                have hs1 := hb1.size
                have hbw1 : b < w1.heap.size := by omega
                go_wp2_with fail
                refine Calls.mono (HT2.out _) ?_
                rintro r w2 ⟨rfl, hb2⟩
                obtain ⟨hcc2, hff2⟩ := bcell hb2
                go_wp2_with fail
                exact ⟨⟨q + 1, _, by go_num, by omega, rfl, hnb, HV2, (hbi.trans (hb1.mono hbi.size)).trans (hb2.mono (Nat.le_trans hbi.size hs1))⟩, by simp [intOf]; omega⟩
          · have HV2 : Hid (nb.toList = nextOf (varNames (e.take (q + 1))) lb.toList) := by show _ = _; rw [ByteArray.toList_eq (bs := lb), HV.out, if_neg (fun h => h1 h.1), ← ByteArray.toList_eq (bs := lb)]; exact HN.out
            have HM := Lib.hid hm1
            clear hm1 HV
            go_wp2_with fail
            refine Calls.mono (HT1.out _) ?_
            rintro r w1 ⟨rfl, hb1⟩
            obtain ⟨hcc, hff⟩ := bcell hb1
            go_wp2_with fail
            exact ⟨⟨q + 1, _, by go_num, by omega, rfl, hnb, HV2, hbi.trans (hb1.mono hbi.size)⟩, by simp [intOf]; omega⟩
        · rw [if_neg h8] at HV
          have h8' : (x.op == 8) = false := by simpa using h8
          clear h8
          have HV2 : Hid (nb.toList = nextOf (varNames (e.take (q + 1))) lb.toList) := by show _ = _; rw [HV.out]; exact HN.out
          clear HV
          go_wp2_with fail
          exact ⟨⟨q + 1, _, by go_num, by omega, rfl, hnb, HV2, hbi⟩, by simp [intOf]; omega⟩
      · have HN2 : Hid (nb.toList = (varsL e)[k]?.getD []) := by
          show _ = _
          rw [HN.out, List.take_of_length_le (by omega)]
          exact next_vars HNE.out HL.out hk
        clear HN
        by_cases hkl : k < (varsL e).length
        · obtain ⟨y, hy⟩ : ∃ y, (varsL e)[k]? = some y := ⟨_, List.getElem?_eq_getElem hkl⟩
          have hyn : y ≠ [] := fun h => HNE.out ((mem_varsL e []).1 (h ▸ List.mem_of_getElem? hy))
          have HY := Lib.hid hy
          rw [hy] at HN2
          have hemp : nb.toList.isEmpty = false := by
            rw [HN2.out]
            cases y with
            | nil => exact absurd rfl hyn
            | cons => rfl
          clear hy hyn
          have HOr : Hid (wr.ownsRow w.heap.size 9 1 (.slice A1 k c1) k (((varsL e).take k).map encStr)) := own_below HO.out hbi
          have hzr := hwr.size
          go_wp2_with (at_builtin; refine wpList_append_own _ rfl (.tmp 51) (.tmp 53) 46 rfl w.heap.size 9 i0 _ 1 16 Tryz.underlying46 hi hz0 hz1 hz2 rfl (by omega) (.slice A1 k c1) k (((varsL e).take k).map encStr) rfl (HOr.out.alloc _) ⟨wr.heap.size, 0, none⟩ 1 1 [.string nb] rfl rfl (new_one _ _ _ _ rfl) (by intro u hu; simp at hu; subst hu; rfl) (by unfold maxLen; omega) (by omega) (by simp; omega) ?_; intro v1 w1 hown1 hgrow1 _)
          have hb2 : RowKit.Below w.heap.size w w1 := (hwr.alloc hwr.size _).grown hgrow1 (by simp; omega) (fun q hq => (HOr.out.lt q hq).1)
          have hte : ((varsL e).take k).map encStr ++ [Value.string nb] = ((varsL e).take (k + 1)).map encStr := by
            rw [List.take_add_one, HY.out, List.map_append, ← encStr_of nb, HN2.out]; rfl
          rw [hte] at hown1
          obtain ⟨A2, c2, hv2, _, _, _⟩ := own_strs hown1 (by rw [List.length_take]; omega)
          rw [hv2] at hown1
          have HO2 := Lib.hid hown1
          clear hown1 hgrow1 hte
          refine ⟨⟨k + 1, nb, A2, c2, hv2, by omega, rfl, hnb, ?_, HO2, hb2⟩, by rw [hv2]; simp [lenSl]; omega⟩
          show _ = _
          rw [if_neg (by omega), HN2.out, show k + 1 - 1 = k from rfl, HY.out]
        · have hemp : nb.toList.isEmpty = true := by rw [HN2.out, List.getElem?_eq_none (by omega)]; rfl
          have HO2 : Hid (wr.ownsRow w.heap.size 9 1 (.slice A1 k c1) k ((varsL e).map encStr)) := by
            have := HO.out
            rw [List.take_of_length_le (by omega)] at this
            exact own_below this hbi
          clear HO HN2 HNE
          obtain rfl : k = (varsL e).length := by omega
          go_wp2_with fail
          go_ret
          obtain ⟨A2, c2, hv2, _, _, hs2⟩ := own_strs HO2.out rfl
          injection hv2 with hA hc hd
          subst hA hd
          exact ⟨A1, c1, rfl, hs2, hwr⟩
end Go.Proofs.YtbommoefpekalaaGreatDoor
