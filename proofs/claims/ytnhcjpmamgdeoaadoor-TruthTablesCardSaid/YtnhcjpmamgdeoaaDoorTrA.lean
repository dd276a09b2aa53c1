/-
  THE WALKS: truth.check, truth.atoms; slices.Index and Contains of strings, in lists.
-/
import Derived.Test.YtnhcjpmamgdeoaaDoorTree4
import Derived.Test.YtnhcjpmamgdeoaaDoorShelf
import Derived.Test.YtnhcjpmamgdeoaaDoorTrP2
namespace Go.Proofs.YtnhcjpmamgdeoaaDoor
open Go.RowKit Go.Sort

def bsL (l : List UInt8) : ByteArray := ⟨l.toArray⟩
theorem bsL_toList (l : List UInt8) : (bsL l).toList = l := by unfold bsL; rw [ByteArray.toList_eq]
theorem bsL_of (s : ByteArray) : bsL s.toList = s := by unfold bsL; rw [ByteArray.toList_eq]
/-- The first place of a text; -1: none. -/
def idxL (ss : List (List UInt8)) (t : List UInt8) : Int := if t ∈ ss then (ss.idxOf t : Int) else -1
theorem getD_bs (ss : List (List UInt8)) (j : Nat) : (ss.map bsL).getD j ByteArray.empty = bsL (ss.getD j []) := by
  rw [List.getD_eq_getElem?_getD, List.getD_eq_getElem?_getD, List.getElem?_map]
  cases ss[j]? <;> rfl
theorem idxOfS_L (ss : List (List UInt8)) (s : ByteArray) : Lib.idxOfS (ss.map bsL) s = idxL ss s.toList := by
  unfold idxL
  have hlen : (ss.map bsL).length = ss.length := List.length_map _
  by_cases h : s.toList ∈ ss
  · rw [if_pos h]
    have hk := List.idxOf_lt_length_iff.2 h
    have hg := List.getElem_idxOf hk
    have := Lib.idxOfS_hit (ss.map bsL) ss.length (ss.idxOf s.toList) s hk (by omega) (by
      rw [getD_bs, List.getD_eq_getElem?_getD, List.getElem?_eq_getElem hk, hg]; exact bsL_of s) (by
      intro j hj hx
      rw [getD_bs, List.getD_eq_getElem?_getD, List.getElem?_eq_getElem (by omega)] at hx
      have hx' : bsL ss[j] = s := hx
      have hx2 : ss[j] = s.toList := by have := congrArg ByteArray.toList hx'; rwa [bsL_toList] at this
      have hne := List.not_of_lt_findIdx (p := (· == s.toList)) (xs := ss) hj
      rw [hx2] at hne
      simp at hne)
    rw [List.take_of_length_le (by omega)] at this
    exact this
  · rw [if_neg h]
    have := Lib.idxOfS_miss (ss.map bsL) ss.length s (by
      intro j hj hx
      rw [getD_bs, List.getD_eq_getElem?_getD, List.getElem?_eq_getElem hj] at hx
      have hx' : bsL ss[j] = s := hx
      apply h
      rw [← hx', bsL_toList]
      exact List.getElem_mem hj)
    rw [List.take_of_length_le (by omega)] at this
    exact this
theorem containsS_L (ss : List (List UInt8)) (s : ByteArray) : Lib.containsS (ss.map bsL) s = ss.contains s.toList := by
  rw [Bool.eq_iff_iff, Lib.containsS_iff, List.contains_iff_mem]
  constructor
  · intro h
    obtain ⟨l, hl, rfl⟩ := List.mem_map.1 h
    rw [bsL_toList]; exact hl
  · intro h
    have := List.mem_map_of_mem (f := bsL) h
    rwa [bsL_of] at this
theorem strs_cells {w : World} {B b o : Nat} {ss : List (List UInt8)} (h : StrSl w B (some ⟨b, o, none⟩) ss) : ∀ j, j < (ss.map bsL).length → w.cell? ⟨b, o + j, none⟩ = some (.string ((ss.map bsL).getD j ByteArray.empty)) := by
  intro j hj
  rw [List.length_map] at hj
  obtain ⟨b', o', e, _, hc⟩ := h.at_ hj
  injection e with e; injection e with e1 e2; subst e1 e2
  rw [hc j _ (List.getElem?_eq_getElem hj), getD_bs, List.getD_eq_getElem?_getD, List.getElem?_eq_getElem hj]; rfl
theorem str_Contains (ss : List (List UInt8)) (A : Option Addr) (c k : Nat) (s : ByteArray) (w : World) (hs : StrSl w w.heap.size A ss) (hk : k ≤ ss.length) (hl : ss.length ≤ 9223372036854775807) :
    Calls Tryd.prog 36 #[.slice A k c, .string s] w fun e w' => e = .returned (.bool ((ss.take k).contains s.toList)) ∧ w = w' := by
  by_cases h0 : k = 0
  · subst h0
    refine (Tryd.slices_Contains_string_empty A c s w).mono ?_
    rintro e w' ⟨rfl, rfl⟩
    exact ⟨by simp, rfl⟩
  · obtain ⟨b, o, rfl, hb, hc⟩ := hs.at_ (i := 0) (by omega)
    refine (Tryd.slices_Contains_string b o k c (ss.map bsL) s w (by simpa using hk) (by omega) (strs_cells hs)).mono ?_
    rintro e w' ⟨rfl, rfl⟩
    refine ⟨?_, rfl⟩
    rw [← List.map_take, containsS_L]
theorem str_Index (ss : List (List UInt8)) (A : Option Addr) (c : Nat) (s : ByteArray) (w : World) (hs : StrSl w w.heap.size A ss) (hl : ss.length ≤ 9223372036854775807) :
    Calls Tryd.prog 49 #[.slice A ss.length c, .string s] w fun e w' => e = .returned (.int .i64 (idxL ss s.toList)) ∧ w = w' := by
  by_cases h0 : ss = []
  · subst h0
    refine (Tryd.slices_Index_string_empty A c s w).mono ?_
    rintro e w' ⟨rfl, rfl⟩
    exact ⟨rfl, rfl⟩
  · have hpos : 0 < ss.length := List.length_pos_iff.2 h0
    obtain ⟨b, o, rfl, hb, hc⟩ := hs.at_ (i := 0) hpos
    refine (Tryd.slices_Index_string b o ss.length c (ss.map bsL) s w (by simp) hl (strs_cells hs)).mono ?_
    rintro e w' ⟨rfl, rfl⟩
    refine ⟨?_, rfl⟩
    rw [List.take_of_length_le (by simp), idxOfS_L]
theorem truth_check (e : List Nd) (A : Option Addr) (c : Nat) (w : World) (hc : e.length ≤ c) (hcm : c ≤ 9223372036854775807) (hok : NdOk e) (hsl : NdSl w w.heap.size A e) :
    Calls Tryd.prog 23 #[.slice A e.length c] w fun r w' => r = .returned (errV (treeErr e)) ∧ RowKit.Below w.heap.size w w' := by
  have H := Lib.hid (tree_Check e A c w hc hcm hok hsl)
  clear hc hok hsl
  go_enter Tryd.func23, Tryd.ntmps23
  go_wp2_with fail
  refine H.out.mono ?_
  rintro r w1 ⟨rfl, hb⟩
  go_wp2_with fail
  go_ret
  exact ⟨rfl, hb⟩
theorem nodup_take {ss : List (List UInt8)} {k : Nat} {x : List UInt8} (hx : ss[k]? = some x) : (ss.take (k + 1)).Nodup ↔ (ss.take k).Nodup ∧ x ∉ ss.take k := by
  rw [List.take_add_one, hx]
  rw [List.nodup_append]
  simp only [Option.toList, List.mem_singleton, List.nodup_cons, List.not_mem_nil, not_false_eq_true, List.nodup_nil, and_self, true_and]
  constructor
  · rintro ⟨h1, h2⟩; exact ⟨h1, fun h => h2 x h x rfl rfl⟩
  · rintro ⟨h1, h2⟩; exact ⟨h1, fun a ha b hb e => h2 (by rw [← hb, ← e]; exact ha)⟩
def missB (ss : List (List UInt8)) (x : Nd) : Bool := x.op == 8 && !ss.contains x.s.toList
set_option maxRecDepth 100000 in
set_option maxHeartbeats 6400000 in
theorem truth_atoms (e : List Nd) (A : Option Addr) (c : Nat) (ss : List (List UInt8)) (An : Option Addr) (cn : Nat) (w : World) (hl : e.length ≤ 100000) (hsl : NdSl w w.heap.size A e) (hs : StrSl w w.heap.size An ss) (hn : ss.length ≤ cn) (hnm : cn ≤ 9223372036854775807) :
    Calls Tryd.prog 24 #[.slice A e.length c, .slice An ss.length cn] w fun r w' => r = .returned (errV (atomsErr e ss)) ∧ RowKit.Below w.heap.size w w' := by
  obtain ⟨q, hq⟩ : ∃ q, atomsErr e ss = q := ⟨_, rfl⟩
  rw [hq]
  have HQ := Lib.hid hq
  have HC := Lib.hid (fun W (hW : RowKit.Below w.heap.size w W) k (s : ByteArray) (hk : k ≤ ss.length) => str_Contains ss An cn k s W ((hs.below hW).more hW.size) hk (by omega))
  have HS := Lib.hid hs
  have HE := Lib.hid hsl
  clear hq hsl hs
  go_enter Tryd.func24, Tryd.ntmps24
  by_cases h6 : 6 < ss.length
  · have t6 : 6 < (ss.length : Int) := by omega
    have hv : Hid (q = 4) := by show _ = _; rw [← HQ.out, atomsErr, if_pos h6]
    go_wp2_with fail
    go_ret
    rw [hv.out]
    exact ⟨rfl, RowKit.Below.refl _ _⟩
  · have t6 : ¬ 6 < (ss.length : Int) := by omega
    go_wp2_with fail
    go_loop [17] (fun ii => ∃ k : Nat, ii = .int .i64 k ∧ k ≤ ss.length ∧ Hid ((ss.take k).Nodup)) (fun ii => ss.length - (intOf ii).toNat)
    case atStart => exact ⟨0, rfl, by omega, List.nodup_nil⟩
    case round =>
      obtain ⟨k, rfl, hk, HK⟩ := hrel
      by_cases hlt : k < ss.length
      · obtain ⟨x, hx⟩ : ∃ x, ss[k]? = some x := ⟨_, List.getElem?_eq_getElem hlt⟩
        obtain ⟨b, o, rfl, hb, hcs⟩ := HS.out.at_ hlt
        have c0 := hcs k x hx
        unfold encStr at c0
        have HX := Lib.hid hx
        clear hx hcs
        have HT := Lib.hid (bsL_toList x)
        by_cases hm : x ∈ ss.take k
        · have tm : Hid ((ss.take k).contains (bsL x).toList = true) := by show _ = _; rw [HT.out]; simpa using hm
          have hv : Hid (q = 6) := by
            show _ = _
            rw [← HQ.out, atomsErr, if_neg h6, if_pos]
            intro h
            have h1 := (nodup_take HX.out).1 (List.Pairwise.sublist (List.take_sublist _ _) h)
            exact h1.2 hm
          clear hm
          go_wp2_with fail
          refine (HC.out _ (RowKit.Below.refl _ _) k (bsL x) (by omega)).mono ?_
          rintro r w1 ⟨rfl, rfl⟩
          rw [tm.out]
          go_wp2_with fail
          go_ret
          rw [hv.out]
          exact ⟨rfl, RowKit.Below.refl _ _⟩
        · have tm : Hid ((ss.take k).contains (bsL x).toList = false) := by show _ = _; rw [HT.out]; simpa using hm
          have HK2 : Hid ((ss.take (k + 1)).Nodup) := (nodup_take HX.out).2 ⟨HK.out, hm⟩
          clear hm
          go_wp2_with fail
          refine (HC.out _ (RowKit.Below.refl _ _) k (bsL x) (by omega)).mono ?_
          rintro r w1 ⟨rfl, rfl⟩
          rw [tm.out]
          go_wp2_with fail
          exact ⟨⟨k + 1, by go_num, by omega, HK2⟩, by simp [intOf]; omega⟩
      · have HND : Hid (ss.Nodup) := by
          have := HK.out
          rw [List.take_of_length_le (by omega)] at this
          exact this
        clear HK
        go_wp2_with fail
        go_loopw [31] (fun ii wr => ∃ j : Nat, ii = .int .i64 j ∧ j ≤ e.length ∧ Hid ((e.take j).all fmOp = true) ∧ RowKit.Below w.heap.size w wr) (fun ii _ => e.length - (intOf ii).toNat)
        case atStart => exact ⟨0, rfl, by omega, rfl, RowKit.Below.refl _ _⟩
        case round =>
          obtain ⟨j, rfl, hj, HJ, hbr⟩ := hrel
          have hzr := hbr.size
          by_cases hlj : j < e.length
          · obtain ⟨y, hy⟩ : ∃ y, e[j]? = some y := ⟨_, List.getElem?_eq_getElem hlj⟩
            obtain ⟨bn, on, rfl, hbn, hcs⟩ := (HE.out.below hbr).at_ hlj
            obtain ⟨f0, f1, f2, f3⟩ := hcs j y hy
            have hbw : bn < wr.heap.size := by omega
            have HY := Lib.hid hy
            clear hy hcs
            by_cases hf : fmOp y = true
            · have HJ2 : Hid ((e.take (j + 1)).all fmOp = true) := by
                show _ = _
                rw [List.take_add_one, HY.out, List.all_append, HJ.out]
                simp [hf]
              have hcase := fmOp_cases hf
              clear hf
              rcases hcase with h | h | h | (h | h | h) | h
              all_goals
                rw [h] at f0
                go_wp2_with fail
                exact ⟨⟨j + 1, by go_num, by omega, HJ2, hbr.alloc hzr _⟩, by simp [intOf]; omega⟩
            · have hall : Hid (e.all fmOp = false) := by
                show _ = _
                rw [List.all_eq_false]
                exact ⟨y, List.mem_of_getElem? HY.out, hf⟩
              have hv : Hid (q = 2) := by
                show _ = _
                rw [← HQ.out, atomsErr, if_neg h6, if_neg (not_not_intro HND.out), if_pos hall.out]
              unfold fmOp at hf
              simp only [Bool.or_eq_true, not_or, Bool.not_eq_true] at hf
              obtain ⟨⟨⟨⟨⟨⟨g1, g2⟩, g3⟩, g4⟩, g5⟩, g6⟩, g7⟩ := hf
              go_wp2_with fail
              go_ret
              rw [hv.out]
              exact ⟨rfl, hbr.alloc hzr _⟩
          · have HALL : Hid (e.all fmOp = true) := by
              have := HJ.out
              rw [List.take_of_length_le (by omega)] at this
              exact this
            clear HJ
            obtain ⟨w2, rfl⟩ : ∃ w2 : World, w2 = wr := ⟨_, rfl⟩
            go_wp2_with fail
            go_loopw [49] (fun ii wr => ∃ i : Nat, ii = .int .i64 i ∧ i ≤ e.length ∧ Hid ((e.take i).any (missB ss) = false) ∧ RowKit.Below w.heap.size w wr) (fun ii _ => e.length - (intOf ii).toNat)
            case atStart => exact ⟨0, rfl, by omega, rfl, hbr⟩
            case round =>
              obtain ⟨i, rfl, hi, HI, hb3⟩ := hrel
              have hz3 := hb3.size
              by_cases hli : i < e.length
              · obtain ⟨y, hy⟩ : ∃ y, e[i]? = some y := ⟨_, List.getElem?_eq_getElem hli⟩
                obtain ⟨bn, on, rfl, hbn, hcs⟩ := (HE.out.below hb3).at_ hli
                obtain ⟨f0, f1, f2, f3⟩ := hcs i y hy
                have hbw : bn < wr.heap.size := by omega
                have HY := Lib.hid hy
                have HST : Hid ((e.take (i + 1)).any (missB ss) = missB ss y) := by
                  show _ = _
                  rw [List.take_add_one, HY.out, List.any_append, HI.out]
                  simp
                clear hy hcs
                by_cases h8 : y.op = 8
                · have t8 : (y.op == 8) = true := by simp [h8]
                  have HM : Hid (missB ss y = !ss.contains y.s.toList) := by show _ = _; unfold missB; rw [t8]; rfl
                  have HCC := Lib.hid (HC.out _ (hb3.alloc hz3 (.cells #[.int .i64 y.op, .int .i64 y.n, .string y.s, .string y.t] 47)) ss.length y.s (Nat.le_refl _))
                  rw [List.take_of_length_le (Nat.le_refl _)] at HCC
                  clear h8
                  by_cases hm : y.s.toList ∈ ss
                  · have tm : Hid (ss.contains y.s.toList = true) := by show _ = _; simpa using hm
                    have HI2 : Hid ((e.take (i + 1)).any (missB ss) = false) := by show _ = _; rw [HST.out, HM.out, tm.out]; rfl
                    clear hm
                    go_wp2_with fail
                    refine HCC.out.mono ?_
                    rintro r w4 ⟨rfl, rfl⟩
                    rw [tm.out]
                    go_wp2_with fail
                    exact ⟨⟨i + 1, by go_num, by omega, HI2, hb3.alloc hz3 _⟩, by simp [intOf]; omega⟩
                  · have tm : Hid (ss.contains y.s.toList = false) := by show _ = _; simpa using hm
                    have hv : Hid (q = 3) := by
                      show _ = _
                      rw [← HQ.out, atomsErr, if_neg h6, if_neg (not_not_intro HND.out), if_neg (by rw [HALL.out]; simp), if_pos]
                      rw [List.any_eq_true]
                      exact ⟨y, List.mem_of_getElem? HY.out, by rw [tm.out, t8]; rfl⟩
                    clear hm
                    go_wp2_with fail
                    refine HCC.out.mono ?_
                    rintro r w4 ⟨rfl, rfl⟩
                    rw [tm.out]
                    go_wp2_with fail
                    go_ret
                    rw [hv.out]
                    exact ⟨rfl, hb3.alloc hz3 _⟩
                · have t8 : (y.op == 8) = false := by simp [h8]
                  have HI2 : Hid ((e.take (i + 1)).any (missB ss) = false) := by show _ = _; rw [HST.out]; unfold missB; rw [t8]; rfl
                  clear h8
                  go_wp2_with fail
                  exact ⟨⟨i + 1, by go_num, by omega, HI2, hb3.alloc hz3 _⟩, by simp [intOf]; omega⟩
              · have hv : Hid (q = 0) := by
                  show _ = _
                  rw [← HQ.out]
                  refine atoms_ok.2 ⟨by omega, HND.out, HALL.out, ?_⟩
                  have := HI.out
                  rw [List.take_of_length_le (by omega)] at this
                  exact this
                go_wp2_with fail
                go_ret
                rw [hv.out]
                exact ⟨rfl, hb3⟩
end Go.Proofs.YtnhcjpmamgdeoaaDoor
