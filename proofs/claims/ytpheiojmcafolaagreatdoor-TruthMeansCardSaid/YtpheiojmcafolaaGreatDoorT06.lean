/-
  THE WALKS: truth.check, truth.atoms; slices.Index and Contains of strings, in lists.
  THE WALKS: the walker over a formula.
  THE WALKS: truth.rows and its iterator; slices.AppendSeq, slices.Collect of bools.
  THE WALKS: truth.rows and its iterator; Table, Ones.
-/
import Derived.Test.YtpheiojmcafolaaGreatDoorT05
import Derived.Test.YtpheiojmcafolaaGreatDoorT01
import Derived.Test.YtpheiojmcafolaaGreatDoorT03
import Derived.BigQuiet
import Derived.IntWalk
import Derived.Laws.BitsAllLaws
import Derived.RangeFuncBox
import Derived.RangeFuncLeaves
import Derived.Shelf.Abstract
import Derived.OwnWalkIn
import Derived.TacticsInMore
import Derived.LoopNIn
import Derived.LoopIn
import Derived.Maps.AppendAt
namespace Go.Proofs.YtpheiojmcafolaaGreatDoor
open Go.RowKit Go.Sort
def bsL (l : List UInt8) : ByteArray := ⟨l.toArray⟩
theorem bsL_toList (l : List UInt8) : (bsL l).toList = l := by unfold bsL; rw [ByteArray.toList_eq]
theorem bsL_of (s : ByteArray) : bsL s.toList = s := by unfold bsL; rw [ByteArray.toList_eq]
/-- The first place of a text; -1: none. -/
def idxL (ss : List (List UInt8)) (t : List UInt8) : Int := if t ∈ ss then (ss.idxOf t : Int) else -1
theorem getD_bs (ss : List (List UInt8)) (j : Nat) : (ss.map bsL).getD j ByteArray.empty = bsL (ss.getD j []) := by
  rw [List.getD_eq_getElem?_getD, List.getD_eq_getElem?_getD, List.getElem?_map]
  cases ss[j]? <;> rfl
theorem idxOfS_L (ss : List (List UInt8)) (s : ByteArray) : Lib.idxOfS (ss.map bsL) s = idxL ss s.toList := by
  unfold idxL
  have hlen : (ss.map bsL).length = ss.length := List.length_map _
  by_cases h : s.toList ∈ ss
  · rw [if_pos h]
    have hk := List.idxOf_lt_length_iff.2 h
    have hg := List.getElem_idxOf hk
    have := Lib.idxOfS_hit (ss.map bsL) ss.length (ss.idxOf s.toList) s hk (by omega) (by
      rw [getD_bs, List.getD_eq_getElem?_getD, List.getElem?_eq_getElem hk, hg]; exact bsL_of s) (by
      intro j hj hx
      rw [getD_bs, List.getD_eq_getElem?_getD, List.getElem?_eq_getElem (by omega)] at hx
      have hx' : bsL ss[j] = s := hx
      have hx2 : ss[j] = s.toList := by have := congrArg ByteArray.toList hx'; rwa [bsL_toList] at this
      have hne := List.not_of_lt_findIdx (p := (· == s.toList)) (xs := ss) hj
      rw [hx2] at hne
      simp at hne)
    rw [List.take_of_length_le (by omega)] at this
    exact this
  · rw [if_neg h]
    have := Lib.idxOfS_miss (ss.map bsL) ss.length s (by
      intro j hj hx
      rw [getD_bs, List.getD_eq_getElem?_getD, List.getElem?_eq_getElem hj] at hx
      have hx' : bsL ss[j] = s := hx
      apply h
      rw [← hx', bsL_toList]
      exact List.getElem_mem hj)
    rw [List.take_of_length_le (by omega)] at this
    exact this
theorem containsS_L (ss : List (List UInt8)) (s : ByteArray) : Lib.containsS (ss.map bsL) s = ss.contains s.toList := by
  rw [Bool.eq_iff_iff, Lib.containsS_iff, List.contains_iff_mem]
  constructor
  · intro h
    obtain ⟨l, hl, rfl⟩ := List.mem_map.1 h
    rw [bsL_toList]; exact hl
  · intro h
    have := List.mem_map_of_mem (f := bsL) h
    rwa [bsL_of] at this
theorem strs_cells {w : World} {B b o : Nat} {ss : List (List UInt8)} (h : StrSl w B (some ⟨b, o, none⟩) ss) : ∀ j, j < (ss.map bsL).length → w.cell? ⟨b, o + j, none⟩ = some (.string ((ss.map bsL).getD j ByteArray.empty)) := by
  intro j hj
  rw [List.length_map] at hj
  obtain ⟨b', o', e, _, hc⟩ := h.at_ hj
  injection e with e; injection e with e1 e2; subst e1 e2
  rw [hc j _ (List.getElem?_eq_getElem hj), getD_bs, List.getD_eq_getElem?_getD, List.getElem?_eq_getElem hj]; rfl
theorem str_Contains (ss : List (List UInt8)) (A : Option Addr) (c k : Nat) (s : ByteArray) (w : World) (hs : StrSl w w.heap.size A ss) (hk : k ≤ ss.length) (hl : ss.length ≤ 9223372036854775807) :
    Calls Tryz.prog 80 #[.slice A k c, .string s] w fun e w' => e = .returned (.bool ((ss.take k).contains s.toList)) ∧ w = w' := by
  by_cases h0 : k = 0
  · subst h0
    refine (Tryz.slices_Contains_string_empty A c s w).mono ?_
    rintro e w' ⟨rfl, rfl⟩
    exact ⟨by simp, rfl⟩
  · obtain ⟨b, o, rfl, hb, hc⟩ := hs.at_ (i := 0) (by omega)
    refine (Tryz.slices_Contains_string b o k c (ss.map bsL) s w (by simpa using hk) (by omega) (strs_cells hs)).mono ?_
    rintro e w' ⟨rfl, rfl⟩
    refine ⟨?_, rfl⟩
    rw [← List.map_take, containsS_L]
theorem str_Index (ss : List (List UInt8)) (A : Option Addr) (c : Nat) (s : ByteArray) (w : World) (hs : StrSl w w.heap.size A ss) (hl : ss.length ≤ 9223372036854775807) :
    Calls Tryz.prog 104 #[.slice A ss.length c, .string s] w fun e w' => e = .returned (.int .i64 (idxL ss s.toList)) ∧ w = w' := by
  by_cases h0 : ss = []
  · subst h0
    refine (Tryz.slices_Index_string_empty A c s w).mono ?_
    rintro e w' ⟨rfl, rfl⟩
    exact ⟨rfl, rfl⟩
  · have hpos : 0 < ss.length := List.length_pos_iff.2 h0
    obtain ⟨b, o, rfl, hb, hc⟩ := hs.at_ (i := 0) hpos
    refine (Tryz.slices_Index_string b o ss.length c (ss.map bsL) s w (by simp) hl (strs_cells hs)).mono ?_
    rintro e w' ⟨rfl, rfl⟩
    refine ⟨?_, rfl⟩
    rw [List.take_of_length_le (by simp), idxOfS_L]
theorem truth_check (e : List Nd) (A : Option Addr) (c : Nat) (w : World) (hc : e.length ≤ c) (hcm : c ≤ 9223372036854775807) (hok : NdOk e) (hsl : NdSl w w.heap.size A e) :
    Calls Tryz.prog 45 #[.slice A e.length c] w fun r w' => r = .returned (errV (treeErr e)) ∧ RowKit.Below w.heap.size w w' := by
  have H := Lib.hid (tree_Check e A c w hc hcm hok hsl)
  clear hc hok hsl
  go_enter Tryz.func45, Tryz.ntmps45
  go_wp2_with fail
  refine H.out.mono ?_
  rintro r w1 ⟨rfl, hb⟩
  go_wp2_with fail
  go_ret
  exact ⟨rfl, hb⟩
theorem nodup_take {ss : List (List UInt8)} {k : Nat} {x : List UInt8} (hx : ss[k]? = some x) : (ss.take (k + 1)).Nodup ↔ (ss.take k).Nodup ∧ x ∉ ss.take k := by
  rw [List.take_add_one, hx]
  rw [List.nodup_append]
  simp only [Option.toList, List.mem_singleton, List.nodup_cons, List.not_mem_nil, not_false_eq_true, List.nodup_nil, and_self, true_and]
  constructor
  · rintro ⟨h1, h2⟩; exact ⟨h1, fun h => h2 x h x rfl rfl⟩
  · rintro ⟨h1, h2⟩; exact ⟨h1, fun a ha b hb e => h2 (by rw [← hb, ← e]; exact ha)⟩
def missB (ss : List (List UInt8)) (x : Nd) : Bool := x.op == 8 && !ss.contains x.s.toList
set_option maxRecDepth 100000 in
set_option maxHeartbeats 6400000 in
theorem truth_atoms (e : List Nd) (A : Option Addr) (c : Nat) (ss : List (List UInt8)) (An : Option Addr) (cn : Nat) (w : World) (hl : e.length ≤ 100000) (hsl : NdSl w w.heap.size A e) (hs : StrSl w w.heap.size An ss) (hn : ss.length ≤ cn) (hnm : cn ≤ 9223372036854775807) :
    Calls Tryz.prog 46 #[.slice A e.length c, .slice An ss.length cn] w fun r w' => r = .returned (errV (atomsErr e ss)) ∧ RowKit.Below w.heap.size w w' := by
  obtain ⟨q, hq⟩ : ∃ q, atomsErr e ss = q := ⟨_, rfl⟩
  rw [hq]
  have HQ := Lib.hid hq
  have HC := Lib.hid (fun W (hW : RowKit.Below w.heap.size w W) k (s : ByteArray) (hk : k ≤ ss.length) => str_Contains ss An cn k s W ((hs.below hW).more hW.size) hk (by omega))
  have HS := Lib.hid hs
  have HE := Lib.hid hsl
  clear hq hsl hs
  go_enter Tryz.func46, Tryz.ntmps46
  by_cases h6 : 6 < ss.length
  · have t6 : 6 < (ss.length : Int) := by omega
    have hv : Hid (q = 4) := by show _ = _; rw [← HQ.out, atomsErr, if_pos h6]
    go_wp2_with fail
    go_ret
    rw [hv.out]
    exact ⟨rfl, RowKit.Below.refl _ _⟩
  · have t6 : ¬ 6 < (ss.length : Int) := by omega
    go_wp2_with fail
    go_loop [17] (fun ii => ∃ k : Nat, ii = .int .i64 k ∧ k ≤ ss.length ∧ Hid ((ss.take k).Nodup)) (fun ii => ss.length - (intOf ii).toNat)
    case atStart => exact ⟨0, rfl, by omega, List.nodup_nil⟩
    case round =>
      obtain ⟨k, rfl, hk, HK⟩ := hrel
      by_cases hlt : k < ss.length
      · obtain ⟨x, hx⟩ : ∃ x, ss[k]? = some x := ⟨_, List.getElem?_eq_getElem hlt⟩
        obtain ⟨b, o, rfl, hb, hcs⟩ := HS.out.at_ hlt
        have c0 := hcs k x hx
        unfold encStr at c0
        have HX := Lib.hid hx
        clear hx hcs
        have HT := Lib.hid (bsL_toList x)
        by_cases hm : x ∈ ss.take k
        · have tm : Hid ((ss.take k).contains (bsL x).toList = true) := by show _ = _; rw [HT.out]; simpa using hm
          have hv : Hid (q = 6) := by
            show _ = _
            rw [← HQ.out, atomsErr, if_neg h6, if_pos]
            intro h
            have h1 := (nodup_take HX.out).1 (List.Pairwise.sublist (List.take_sublist _ _) h)
            exact h1.2 hm
          clear hm
          go_wp2_with fail
          refine (HC.out _ (RowKit.Below.refl _ _) k (bsL x) (by omega)).mono ?_
          rintro r w1 ⟨rfl, rfl⟩
          rw [tm.out]
          go_wp2_with fail
          go_ret
          rw [hv.out]
          exact ⟨rfl, RowKit.Below.refl _ _⟩
        · have tm : Hid ((ss.take k).contains (bsL x).toList = false) := by show _ = _; rw [HT.out]; simpa using hm
          have HK2 : Hid ((ss.take (k + 1)).Nodup) := (nodup_take HX.out).2 ⟨HK.out, hm⟩
          clear hm
          go_wp2_with fail
          refine (HC.out _ (RowKit.Below.refl _ _) k (bsL x) (by omega)).mono ?_
          rintro r w1 ⟨rfl, rfl⟩
          rw [tm.out]
          go_wp2_with fail
          exact ⟨⟨k + 1, by go_num, by omega, HK2⟩, by simp [intOf]; omega⟩
      · have HND : Hid (ss.Nodup) := by
          have := HK.out
          rw [List.take_of_length_le (by omega)] at this
          exact this
        clear HK
        go_wp2_with fail
        go_loopw [31] (fun ii wr => ∃ j : Nat, ii = .int .i64 j ∧ j ≤ e.length ∧ Hid ((e.take j).all fmOp = true) ∧ RowKit.Below w.heap.size w wr) (fun ii _ => e.length - (intOf ii).toNat)
        case atStart => exact ⟨0, rfl, by omega, rfl, RowKit.Below.refl _ _⟩
        case round =>
          obtain ⟨j, rfl, hj, HJ, hbr⟩ := hrel
          have hzr := hbr.size
          by_cases hlj : j < e.length
          · obtain ⟨y, hy⟩ : ∃ y, e[j]? = some y := ⟨_, List.getElem?_eq_getElem hlj⟩
            obtain ⟨bn, on, rfl, hbn, hcs⟩ := (HE.out.below hbr).at_ hlj
            obtain ⟨f0, f1, f2, f3⟩ := hcs j y hy
            have hbw : bn < wr.heap.size := by omega
            have HY := Lib.hid hy
            clear hy hcs
            by_cases hf : fmOp y = true
            · have HJ2 : Hid ((e.take (j + 1)).all fmOp = true) := by
                show _ = _
                rw [List.take_add_one, HY.out, List.all_append, HJ.out]
                simp [hf]
              have hcase := fmOp_cases hf
              clear hf
              rcases hcase with h | h | h | (h | h | h) | h
              all_goals
                rw [h] at f0
                go_wp2_with fail
                exact ⟨⟨j + 1, by go_num, by omega, HJ2, hbr.alloc hzr _⟩, by simp [intOf]; omega⟩
            · have hall : Hid (e.all fmOp = false) := by
                show _ = _
                rw [List.all_eq_false]
                exact ⟨y, List.mem_of_getElem? HY.out, hf⟩
              have hv : Hid (q = 2) := by
                show _ = _
                rw [← HQ.out, atomsErr, if_neg h6, if_neg (not_not_intro HND.out), if_pos hall.out]
              unfold fmOp at hf
              simp only [Bool.or_eq_true, not_or, Bool.not_eq_true] at hf
              obtain ⟨⟨⟨⟨⟨⟨g1, g2⟩, g3⟩, g4⟩, g5⟩, g6⟩, g7⟩ := hf
              go_wp2_with fail
              go_ret
              rw [hv.out]
              exact ⟨rfl, hbr.alloc hzr _⟩
          · have HALL : Hid (e.all fmOp = true) := by
              have := HJ.out
              rw [List.take_of_length_le (by omega)] at this
              exact this
            clear HJ
            obtain ⟨w2, rfl⟩ : ∃ w2 : World, w2 = wr := ⟨_, rfl⟩
            go_wp2_with fail
            go_loopw [49] (fun ii wr => ∃ i : Nat, ii = .int .i64 i ∧ i ≤ e.length ∧ Hid ((e.take i).any (missB ss) = false) ∧ RowKit.Below w.heap.size w wr) (fun ii _ => e.length - (intOf ii).toNat)
            case atStart => exact ⟨0, rfl, by omega, rfl, hbr⟩
            case round =>
              obtain ⟨i, rfl, hi, HI, hb3⟩ := hrel
              have hz3 := hb3.size
              by_cases hli : i < e.length
              · obtain ⟨y, hy⟩ : ∃ y, e[i]? = some y := ⟨_, List.getElem?_eq_getElem hli⟩
                obtain ⟨bn, on, rfl, hbn, hcs⟩ := (HE.out.below hb3).at_ hli
                obtain ⟨f0, f1, f2, f3⟩ := hcs i y hy
                have hbw : bn < wr.heap.size := by omega
                have HY := Lib.hid hy
                have HST : Hid ((e.take (i + 1)).any (missB ss) = missB ss y) := by
                  show _ = _
                  rw [List.take_add_one, HY.out, List.any_append, HI.out]
                  simp
                clear hy hcs
                by_cases h8 : y.op = 8
                · have t8 : (y.op == 8) = true := by simp [h8]
                  have HM : Hid (missB ss y = !ss.contains y.s.toList) := by show _ = _; unfold missB; rw [t8]; rfl
                  have HCC := Lib.hid (HC.out _ (hb3.alloc hz3 (.cells #[.int .i64 y.op, .int .i64 y.n, .string y.s, .string y.t] 37)) ss.length y.s (Nat.le_refl _))
                  rw [List.take_of_length_le (Nat.le_refl _)] at HCC
                  clear h8
                  by_cases hm : y.s.toList ∈ ss
                  · have tm : Hid (ss.contains y.s.toList = true) := by show _ = _; simpa using hm
                    have HI2 : Hid ((e.take (i + 1)).any (missB ss) = false) := by show _ = _; rw [HST.out, HM.out, tm.out]; rfl
                    clear hm
                    go_wp2_with fail
                    refine HCC.out.mono ?_
                    rintro r w4 ⟨rfl, rfl⟩
                    rw [tm.out]
                    go_wp2_with fail
                    exact ⟨⟨i + 1, by go_num, by omega, HI2, hb3.alloc hz3 _⟩, by simp [intOf]; omega⟩
                  · have tm : Hid (ss.contains y.s.toList = false) := by show _ = _; simpa using hm
                    have hv : Hid (q = 3) := by
                      show _ = _
                      rw [← HQ.out, atomsErr, if_neg h6, if_neg (not_not_intro HND.out), if_neg (by rw [HALL.out]; simp), if_pos]
                      rw [List.any_eq_true]
                      exact ⟨y, List.mem_of_getElem? HY.out, by rw [tm.out, t8]; rfl⟩
                    clear hm
                    go_wp2_with fail
                    refine HCC.out.mono ?_
                    rintro r w4 ⟨rfl, rfl⟩
                    rw [tm.out]
                    go_wp2_with fail
                    go_ret
                    rw [hv.out]
                    exact ⟨rfl, hb3.alloc hz3 _⟩
                · have t8 : (y.op == 8) = false := by simp [h8]
                  have HI2 : Hid ((e.take (i + 1)).any (missB ss) = false) := by show _ = _; rw [HST.out]; unfold missB; rw [t8]; rfl
                  clear h8
                  go_wp2_with fail
                  exact ⟨⟨i + 1, by go_num, by omega, HI2, hb3.alloc hz3 _⟩, by simp [intOf]; omega⟩
              · have hv : Hid (q = 0) := by
                  show _ = _
                  rw [← HQ.out]
                  refine atoms_ok.2 ⟨by omega, HND.out, HALL.out, ?_⟩
                  have := HI.out
                  rw [List.take_of_length_le (by omega)] at this
                  exact this
                go_wp2_with fail
                go_ret
                rw [hv.out]
                exact ⟨rfl, hb3⟩
end Go.Proofs.YtpheiojmcafolaaGreatDoor
namespace Go.Proofs.YtpheiojmcafolaaGreatDoor
open Go.RowKit Go.Sort
theorem vB_idx : ∀ (ss : List (List UInt8)) (v : List UInt8 → Bool) (bits : Nat) (t : List UInt8), t ∈ ss → vB ss v bits t = bits.testBit (ss.length - 1 - ss.idxOf t)
  | [], _, _, _, h => by cases h
  | s :: r, v, bits, t, h => by
    rw [vB]
    by_cases e : t = s
    · subst e
      rw [if_pos rfl, List.idxOf_cons_self]; simp
    · rw [if_neg e]
      have hr : t ∈ r := by rcases List.mem_cons.1 h with h | h; exact absurd h e; exact h
      have hi := List.idxOf_lt_length_iff.2 hr
      have hne : (s == t) = false := by simpa using fun h => e h.symm
      rw [vB_idx r v bits t hr, List.idxOf_cons, hne]
      simp only [cond_false, List.length_cons]
      congr 1
      omega
theorem i64_and1 (n : Int) : Go.bits .and .i64 n 1 = n % 2 := by
  have h1 : (BitVec.ofInt 64 1).toNat = 2 ^ 1 - 1 := by decide
  have key : (BitVec.ofInt 64 n &&& BitVec.ofInt 64 1).toNat = (n % ((2 ^ 64 : Nat) : Int)).toNat % 2 ^ 1 := by
    rw [BitVec.toNat_and, BitVec.toNat_ofInt, h1, Nat.and_two_pow_sub_one_eq_mod]
  show IntKind.i64.wrap ((BitVec.ofInt 64 n &&& BitVec.ofInt 64 1).toNat : Nat) = n % 2
  rw [key, IntKind.wrap_i64]
  omega
theorem cast_one (y : Nat) : ((y : Int) == 1) = decide (y = 1) := by
  rw [Bool.eq_iff_iff]; simp; omega
theorem bit_val (ss : List (List UInt8)) (bits : Nat) (t : List UInt8) (hb : bits < 2 ^ ss.length) (cnt : Int) (hc : (ss.length : Int) - 1 - idxL ss t = cnt) : (Go.bits BinOp.and IntKind.i64 ((bits : Int) / 2 ^ cnt.toNat) 1 == 1) = vB ss noneV bits t := by
  have hdiv : ((bits : Int) / 2 ^ cnt.toNat) = ((bits / 2 ^ cnt.toNat : Nat) : Int) := by simp
  rw [hdiv]
  have hand : Go.bits BinOp.and IntKind.i64 ((bits / 2 ^ cnt.toNat : Nat) : Int) 1 = ((bits / 2 ^ cnt.toNat % 2 : Nat) : Int) := by
    rw [i64_and1]; omega
  rw [hand, cast_one]
  unfold idxL at hc
  split at hc
  · rename_i h
    have hi := List.idxOf_lt_length_iff.2 h
    have : cnt.toNat = ss.length - 1 - ss.idxOf t := by omega
    rw [vB_idx ss _ _ _ h, this, Nat.testBit_eq_decide_div_mod_eq]
  · rename_i h
    have : cnt.toNat = ss.length := by omega
    rw [this, vB_not ss _ _ _ h, Nat.div_eq_of_lt hb]; rfl
def wkV (A : Option Addr) (n c : Nat) (An : Option Addr) (m cn bits : Nat) : Array Value := #[.slice A n c, .slice An m cn, .int .i64 (bits : Int)]
def NextOkT (f : Fm) : Prop := ∀ (rest : List Nd) (w : World) (wb : Nat) (A : Option Addr) (c : Nat) (An : Option Addr) (ss : List (List UInt8)) (cn bits : Nat),
  Blk w wb 143 (wkV A (f.enc ++ rest).length c An ss.length cn bits) → NdSl w wb A (f.enc ++ rest) → StrSl w wb An ss → ss.length ≤ 6 → (f.enc ++ rest).length ≤ c → c ≤ 9223372036854775807 → bits < 2 ^ ss.length → cn ≤ 9223372036854775807 →
  Calls Tryz.prog 83 #[.pointer (some ⟨wb, 0, none⟩)] w fun r w' => r = .returned (.bool (f.ev (vB ss noneV bits))) ∧ ∃ A' c', Blk w' wb 143 (wkV A' rest.length c' An ss.length cn bits) ∧ NdSl w' wb A' rest ∧ rest.length ≤ c' ∧ c' ≤ 9223372036854775807 ∧ Only w.heap.size wb w w'
theorem slice_one (w : World) (b o n c : Nat) (hn : n + 1 ≤ c) : (Instr.slice 22 (.slice (some ⟨b, o, none⟩) (n + 1) c) (some (.int .i64 1)) none none).run Tryz.prog w = .ok (.slice (if c = 1 then some ⟨b, o, none⟩ else some ⟨b, o + 4, none⟩) n (c - 1)) w := by
  by_cases h : c = 1
  · subst h
    obtain rfl : n = 0 := by omega
    simp [go_sem]
  · simp [go_sem, h]
    intro hh
    omega
theorem nd_tail {w : World} {B b o c : Nat} {n : Nd} {rest : List Nd} (h : NdSl w B (some ⟨b, o, none⟩) (n :: rest)) (hc : rest.length + 1 ≤ c) : NdSl w B (if c = 1 then some ⟨b, o, none⟩ else some ⟨b, o + 4, none⟩) rest := fun hne => by
  obtain ⟨b', o', e, hb, hx⟩ := h (by simp)
  injection e with e; injection e with e1 e2; subst e1 e2
  have hp : 0 < rest.length := List.length_pos_iff.2 hne
  rw [if_neg (by omega)]
  refine ⟨b, o + 4, rfl, hb, fun i y hy => ?_⟩
  have := hx (i + 1) y (by simpa using hy)
  rwa [show o + (i + 1) * 4 = o + 4 + i * 4 from by omega] at this
/-- The node that is read, and what is left. -/
theorem wk_head {w : World} {wb c : Nat} {A : Option Addr} {n : Nd} {rest : List Nd} (h : NdSl w wb A (n :: rest)) (hc : rest.length + 1 ≤ c) : ∃ b o A1, A = some ⟨b, o, none⟩ ∧ b < wb ∧ NdAt w b o n ∧ NdSl w wb A1 rest ∧
    ∀ W, (Instr.slice 22 (.slice (some ⟨b, o, none⟩) (rest.length + 1) c) (some (.int .i64 1)) none none).run Tryz.prog W = .ok (.slice A1 rest.length (c - 1)) W := by
  obtain ⟨b, o, rfl, hb, hx⟩ := h (by simp)
  have h0 := hx 0 n rfl
  rw [Nat.zero_mul, Nat.add_zero] at h0
  exact ⟨b, o, _, rfl, hb, h0, nd_tail h hc, fun W => slice_one W b o rest.length c hc⟩
theorem idxL_bd (ss : List (List UInt8)) (t : List UInt8) : -1 ≤ idxL ss t ∧ idxL ss t ≤ (ss.length : Int) - 1 := by
  unfold idxL
  split
  · rename_i h; have := List.idxOf_lt_length_iff.2 h; omega
  · omega
/-- The world behind the reading of a node. -/
structure WkAt (w : World) (wb : Nat) (V : Array Value) (A1 : Option Addr) (m c : Nat) (An : Option Addr) (k cn bits : Nat) (w1 : World) : Prop where
  blk : Blk w1 wb 143 (wkV A1 m c An k cn bits)
  box : Blk w1 w.heap.size 37 V
  only : Only w.heap.size wb w w1
theorem wk_world {w : World} {wb : Nat} {A : Option Addr} {n c : Nat} {An : Option Addr} {k cn bits : Nat} (hB : Blk w wb 143 (wkV A n c An k cn bits)) (V : Array Value) (A1 : Option Addr) (m c1 : Nat) :
    WkAt w wb V A1 m c1 An k cn bits ((w.setCell ⟨wb, 0, none⟩ (.slice A1 m c1)).alloc (.cells V 37)) :=
  ⟨(hB.set 0 _).alloc _, by have := Blk.new (w.setCell ⟨wb, 0, none⟩ (.slice A1 m c1)) 37 V; rwa [World.size_setCell] at this, by (repeat (first | assumption | exact Only.refl _ _ _ | apply Only.drew | apply Only.drewN | (refine Only.alloc ?_ (by first | exact Nat.le_refl _ | omega | (simp; done) | (simp; omega)) _) | (refine Only.setCell ?_ (by first | exact .inl rfl | exact .inr (Nat.le_refl _) | exact .inr (by first | omega | (simp; omega))) _)))⟩
theorem WkAt.next {w : World} {wb : Nat} {V : Array Value} {A1 A2 : Option Addr} {m c m2 c2 : Nat} {An : Option Addr} {k cn bits : Nat} {w1 w2 : World} (h : WkAt w wb V A1 m c An k cn bits w1) (hb : Blk w2 wb 143 (wkV A2 m2 c2 An k cn bits)) (ho : Only w1.heap.size wb w1 w2) (hne : wb < w.heap.size) :
    WkAt w wb V A2 m2 c2 An k cn bits w2 :=
  ⟨hb, h.box.only ho h.box.lt (by omega), h.only.trans (ho.mono h.only.size)⟩
theorem NdSl.wk {w w1 : World} {wb : Nat} {A : Option Addr} {xs : List Nd} (h : NdSl w wb A xs) (ho : Only w.heap.size wb w w1) (hlt : wb < w.heap.size) : NdSl w1 wb A xs := h.keep fun p hp => ho.cell (by omega) (by omega)
theorem StrSl.wk {w w1 : World} {wb : Nat} {A : Option Addr} {xs : List (List UInt8)} (h : StrSl w wb A xs) (ho : Only w.heap.size wb w w1) (hlt : wb < w.heap.size) : StrSl w1 wb A xs := h.keep fun p hp => ho.cell (by omega) (by omega)
set_option maxRecDepth 100000 in
set_option maxHeartbeats 6400000 in
theorem next_lit (n : Nd) (h1 : n.op = 1) : NextOkT (.lit n) := by
  intro rest w wb A c An ss cn bits hB hsl hss h6 hc hcm hbits hcn
  simp only [Fm.enc, List.cons_append, List.nil_append, List.length_cons] at hc hB hsl
  have hcell := hB.cell
  have hfz := hB.frozen
  have hlt := hB.lt
  obtain ⟨b, o, A1, rfl, hb, ⟨f0, f1, f2, f3⟩, hs1, hsl1⟩ := wk_head hsl hc
  have hbw : b < w.heap.size := by omega
  have HS := Lib.hid hs1
  have HB := Lib.hid hB
  clear hsl hB hs1
  unfold wkV at hcell
  rw [h1] at f0
  go_enter Tryz.func83, Tryz.ntmps83
  go_wp2_with fail
  go_ret
  have hW := wk_world HB.out #[.int .i64 1, .int .i64 n.n, .string n.s, .string n.t] A1 rest.length (c - 1)
  exact ⟨rfl, A1, c - 1, hW.blk, HS.out.wk hW.only hlt, by omega, by omega, hW.only⟩
set_option maxRecDepth 100000 in
set_option maxHeartbeats 6400000 in
theorem next_var (n : Nd) (h1 : n.op = 8) : NextOkT (.var n) := by
  intro rest w wb A c An ss cn bits hB hsl hss h6 hc hcm hbits hcn
  simp only [Fm.enc, List.cons_append, List.nil_append, List.length_cons] at hc hB hsl
  have hcell := hB.cell
  have hfz := hB.frozen
  have hlt := hB.lt
  obtain ⟨b, o, A1, rfl, hb, ⟨f0, f1, f2, f3⟩, hs1, hsl1⟩ := wk_head hsl hc
  have hbw : b < w.heap.size := by omega
  have HS := Lib.hid hs1
  have HB := Lib.hid hB
  have HSS := Lib.hid hss
  clear hsl hB hs1 hss
  unfold wkV at hcell
  rw [h1] at f0
  go_enter Tryz.func83, Tryz.ntmps83
  go_wp2_with fail
  have hW := wk_world HB.out #[.int .i64 8, .int .i64 n.n, .string n.s, .string n.t] A1 rest.length (c - 1)
  generalize (w.setCell _ _).alloc _ = w1 at hW ⊢
  have HIX := Lib.hid (fun W (hWW : ∃ q, W = w1.drewN q) => str_Index ss An cn n.s W (by obtain ⟨q, rfl⟩ := hWW; exact (HSS.out.wk (hW.only.drewN q) hlt).more (by have := hW.only.size; simp; omega)) (by omega))
  have hix := idxL_bd ss n.s.toList
  generalize hixe : idxL ss n.s.toList = ix at HIX hix
  have s1 : IntKind.i64.wrap ((ss.length : Int) - 1) = (ss.length : Int) - 1 := IntWalk.i64_in _ (by omega)
  have s2 : IntKind.i64.wrap ((ss.length : Int) - 1 - ix) = (ss.length : Int) - 1 - ix := IntWalk.i64_in _ (by omega)
  have d0 := hW.blk.cell
  have d1 := hW.box.cell
  have l1 := hW.box.lt
  have l2 := hW.blk.lt
  unfold wkV at d0
  clear hcell hfz f0 f1 f2 f3
  obtain ⟨cnt, hcnt⟩ : ∃ cnt : Int, (ss.length : Int) - 1 - ix = cnt := ⟨_, rfl⟩
  have b1 : 0 ≤ cnt := by omega
  have b2 : cnt ≤ 64 := by omega
  rw [hcnt] at s2
  have HIXE : Hid ((ss.length : Int) - 1 - idxL ss n.s.toList = cnt) := by show _ = _; rw [hixe]; exact hcnt
  clear hixe
  go_quiet ((go_at_call 104; exact Calls.quiet_of_same ((HIX.out _ ⟨_, rfl⟩).mono fun _ _ h => ⟨h.1, h.2.symm⟩)))
  have HV := Lib.hid (bit_val ss bits n.s.toList hbits cnt HIXE.out)
  rw [HV.out]
  clear s1 s2 d0 d1 l1 l2
  go_wp2_with fail
  go_ret
  exact ⟨rfl, A1, c - 1, hW.blk.drewN _, HS.out.wk (hW.only.drewN _) hlt, by omega, by omega, hW.only.drewN _⟩
set_option maxRecDepth 100000 in
set_option maxHeartbeats 6400000 in
theorem next_neg (n : Nd) (a : Fm) (h1 : n.op = 9) (ih : NextOkT a) : NextOkT (.neg n a) := by
  intro rest w wb A c An ss cn bits hB hsl hss h6 hc hcm hbits hcn
  have HI := Lib.hid (ih rest)
  simp only [Fm.enc, List.cons_append, List.length_cons] at hc hB hsl
  have HE : Hid ((Fm.neg n a).ev (vB ss noneV bits) = !a.ev (vB ss noneV bits)) := rfl
  rw [HE.out]
  generalize hT : a.enc ++ rest = T at hc hB hsl HI
  clear hT HE ih
  have hcell := hB.cell
  have hfz := hB.frozen
  have hlt := hB.lt
  obtain ⟨b, o, A1, rfl, hb, ⟨f0, f1, f2, f3⟩, hs1, hsl1⟩ := wk_head hsl hc
  have hbw : b < w.heap.size := by omega
  have HS := Lib.hid hs1
  have HB := Lib.hid hB
  have HSS := Lib.hid hss
  clear hsl hB hs1 hss
  unfold wkV at hcell
  rw [h1] at f0
  go_enter Tryz.func83, Tryz.ntmps83
  go_wp2_with fail
  have hW := wk_world HB.out #[.int .i64 9, .int .i64 n.n, .string n.s, .string n.t] A1 T.length (c - 1)
  generalize (w.setCell _ _).alloc _ = w1 at hW ⊢
  refine (HI.out w1 wb A1 (c - 1) An ss cn bits hW.blk (HS.out.wk hW.only hlt) (HSS.out.wk hW.only hlt) h6 (by omega) (by omega) hbits hcn).mono ?_
  rintro r w2 ⟨rfl, A2, c2, hb2, hs2, hc2, hcm2, ho2⟩
  have hW2 := hW.next hb2 ho2 hlt
  go_wp2_with fail
  go_ret
  exact ⟨rfl, A2, c2, hb2, hs2, hc2, hcm2, hW2.only⟩
set_option maxRecDepth 100000 in
set_option maxHeartbeats 6400000 in
theorem next_two11 (n : Nd) (a d : Fm) (h1 : n.op = 11) (iha : NextOkT a) (ihd : NextOkT d) : NextOkT (.two n a d) := by
  intro rest w wb A c An ss cn bits hB hsl hss h6 hc hcm hbits hcn
  have HI := Lib.hid (fun w wb A c => iha (d.enc ++ rest) w wb A c An ss cn bits)
  have HJ := Lib.hid (fun w wb A c => ihd rest w wb A c An ss cn bits)
  simp only [Fm.enc, List.cons_append, List.length_cons, List.append_assoc] at hc hB hsl
  have HE : Hid ((Fm.two n a d).ev (vB ss noneV bits) = (a.ev (vB ss noneV bits) && d.ev (vB ss noneV bits))) := by show twoB n.op _ _ = _; rw [h1]; rfl
  rw [HE.out]
  obtain ⟨va, hva⟩ : ∃ va, a.ev (vB ss noneV bits) = va := ⟨_, rfl⟩
  obtain ⟨vd, hvd⟩ : ∃ vd, d.ev (vB ss noneV bits) = vd := ⟨_, rfl⟩
  rw [hva] at HI
  rw [hvd] at HJ
  rw [hva, hvd]
  clear HE iha ihd hva hvd
  generalize d.enc ++ rest = T2 at hc hB hsl HI HJ
  generalize a.enc ++ T2 = T at hc hB hsl HI
  have hcell := hB.cell
  have hfz := hB.frozen
  have hlt := hB.lt
  obtain ⟨b, o, A1, rfl, hb, ⟨f0, f1, f2, f3⟩, hs1, hsl1⟩ := wk_head hsl hc
  have hbw : b < w.heap.size := by omega
  have HS := Lib.hid hs1
  have HB := Lib.hid hB
  have HSS := Lib.hid hss
  clear hsl hB hs1 hss
  unfold wkV at hcell
  rw [h1] at f0
  cases va <;> cases vd
  all_goals
    go_enter Tryz.func83, Tryz.ntmps83
    go_wp2_with fail
    have hW := wk_world HB.out #[.int .i64 11, .int .i64 n.n, .string n.s, .string n.t] A1 T.length (c - 1)
    generalize (w.setCell _ _).alloc _ = w1 at hW ⊢
    refine (HI.out w1 wb A1 (c - 1) hW.blk (HS.out.wk hW.only hlt) (HSS.out.wk hW.only hlt) h6 (by omega) (by omega) hbits hcn).mono ?_
    rintro r w2 ⟨rfl, A2, c2, hb2, hs2, hc2, hcm2, ho2⟩
    have hW2 := hW.next hb2 ho2 hlt
    have HS2 := Lib.hid hs2
    clear hs2 hb2 ho2 hcell hfz f0 f1 f2 f3
    go_wp2_with fail
    refine (HJ.out w2 wb A2 c2 hW2.blk HS2.out (HSS.out.wk hW2.only hlt) h6 hc2 hcm2 hbits hcn).mono ?_
    rintro r w3 ⟨rfl, A3, c3, hb3, hs3, hc3, hcm3, ho3⟩
    have hW3 := hW2.next hb3 ho3 hlt
    have HS3 := Lib.hid hs3
    have g0 := hW3.box.cell
    clear hs3 hb3 ho3
    go_wp2_with fail
    go_ret
    exact ⟨rfl, A3, c3, hW3.blk, HS3.out, hc3, hcm3, hW3.only⟩
set_option maxRecDepth 100000 in
set_option maxHeartbeats 6400000 in
theorem next_two12 (n : Nd) (a d : Fm) (h1 : n.op = 12) (iha : NextOkT a) (ihd : NextOkT d) : NextOkT (.two n a d) := by
  intro rest w wb A c An ss cn bits hB hsl hss h6 hc hcm hbits hcn
  have HI := Lib.hid (fun w wb A c => iha (d.enc ++ rest) w wb A c An ss cn bits)
  have HJ := Lib.hid (fun w wb A c => ihd rest w wb A c An ss cn bits)
  simp only [Fm.enc, List.cons_append, List.length_cons, List.append_assoc] at hc hB hsl
  have HE : Hid ((Fm.two n a d).ev (vB ss noneV bits) = (a.ev (vB ss noneV bits) || d.ev (vB ss noneV bits))) := by show twoB n.op _ _ = _; rw [h1]; rfl
  rw [HE.out]
  obtain ⟨va, hva⟩ : ∃ va, a.ev (vB ss noneV bits) = va := ⟨_, rfl⟩
  obtain ⟨vd, hvd⟩ : ∃ vd, d.ev (vB ss noneV bits) = vd := ⟨_, rfl⟩
  rw [hva] at HI
  rw [hvd] at HJ
  rw [hva, hvd]
  clear HE iha ihd hva hvd
  generalize d.enc ++ rest = T2 at hc hB hsl HI HJ
  generalize a.enc ++ T2 = T at hc hB hsl HI
  have hcell := hB.cell
  have hfz := hB.frozen
  have hlt := hB.lt
  obtain ⟨b, o, A1, rfl, hb, ⟨f0, f1, f2, f3⟩, hs1, hsl1⟩ := wk_head hsl hc
  have hbw : b < w.heap.size := by omega
  have HS := Lib.hid hs1
  have HB := Lib.hid hB
  have HSS := Lib.hid hss
  clear hsl hB hs1 hss
  unfold wkV at hcell
  rw [h1] at f0
  cases va <;> cases vd
  all_goals
    go_enter Tryz.func83, Tryz.ntmps83
    go_wp2_with fail
    have hW := wk_world HB.out #[.int .i64 12, .int .i64 n.n, .string n.s, .string n.t] A1 T.length (c - 1)
    generalize (w.setCell _ _).alloc _ = w1 at hW ⊢
    refine (HI.out w1 wb A1 (c - 1) hW.blk (HS.out.wk hW.only hlt) (HSS.out.wk hW.only hlt) h6 (by omega) (by omega) hbits hcn).mono ?_
    rintro r w2 ⟨rfl, A2, c2, hb2, hs2, hc2, hcm2, ho2⟩
    have hW2 := hW.next hb2 ho2 hlt
    have HS2 := Lib.hid hs2
    clear hs2 hb2 ho2 hcell hfz f0 f1 f2 f3
    go_wp2_with fail
    refine (HJ.out w2 wb A2 c2 hW2.blk HS2.out (HSS.out.wk hW2.only hlt) h6 hc2 hcm2 hbits hcn).mono ?_
    rintro r w3 ⟨rfl, A3, c3, hb3, hs3, hc3, hcm3, ho3⟩
    have hW3 := hW2.next hb3 ho3 hlt
    have HS3 := Lib.hid hs3
    have g0 := hW3.box.cell
    clear hs3 hb3 ho3
    go_wp2_with fail
    go_ret
    exact ⟨rfl, A3, c3, hW3.blk, HS3.out, hc3, hcm3, hW3.only⟩
set_option maxRecDepth 100000 in
set_option maxHeartbeats 6400000 in
theorem next_two14 (n : Nd) (a d : Fm) (h1 : n.op = 14) (iha : NextOkT a) (ihd : NextOkT d) : NextOkT (.two n a d) := by
  intro rest w wb A c An ss cn bits hB hsl hss h6 hc hcm hbits hcn
  have HI := Lib.hid (fun w wb A c => iha (d.enc ++ rest) w wb A c An ss cn bits)
  have HJ := Lib.hid (fun w wb A c => ihd rest w wb A c An ss cn bits)
  simp only [Fm.enc, List.cons_append, List.length_cons, List.append_assoc] at hc hB hsl
  have HE : Hid ((Fm.two n a d).ev (vB ss noneV bits) = (a.ev (vB ss noneV bits) == d.ev (vB ss noneV bits))) := by show twoB n.op _ _ = _; rw [h1]; rfl
  rw [HE.out]
  obtain ⟨va, hva⟩ : ∃ va, a.ev (vB ss noneV bits) = va := ⟨_, rfl⟩
  obtain ⟨vd, hvd⟩ : ∃ vd, d.ev (vB ss noneV bits) = vd := ⟨_, rfl⟩
  rw [hva] at HI
  rw [hvd] at HJ
  rw [hva, hvd]
  clear HE iha ihd hva hvd
  generalize d.enc ++ rest = T2 at hc hB hsl HI HJ
  generalize a.enc ++ T2 = T at hc hB hsl HI
  have hcell := hB.cell
  have hfz := hB.frozen
  have hlt := hB.lt
  obtain ⟨b, o, A1, rfl, hb, ⟨f0, f1, f2, f3⟩, hs1, hsl1⟩ := wk_head hsl hc
  have hbw : b < w.heap.size := by omega
  have HS := Lib.hid hs1
  have HB := Lib.hid hB
  have HSS := Lib.hid hss
  clear hsl hB hs1 hss
  unfold wkV at hcell
  rw [h1] at f0
  cases va <;> cases vd
  all_goals
    go_enter Tryz.func83, Tryz.ntmps83
    go_wp2_with fail
    have hW := wk_world HB.out #[.int .i64 14, .int .i64 n.n, .string n.s, .string n.t] A1 T.length (c - 1)
    generalize (w.setCell _ _).alloc _ = w1 at hW ⊢
    refine (HI.out w1 wb A1 (c - 1) hW.blk (HS.out.wk hW.only hlt) (HSS.out.wk hW.only hlt) h6 (by omega) (by omega) hbits hcn).mono ?_
    rintro r w2 ⟨rfl, A2, c2, hb2, hs2, hc2, hcm2, ho2⟩
    have hW2 := hW.next hb2 ho2 hlt
    have HS2 := Lib.hid hs2
    clear hs2 hb2 ho2 hcell hfz f0 f1 f2 f3
    go_wp2_with fail
    refine (HJ.out w2 wb A2 c2 hW2.blk HS2.out (HSS.out.wk hW2.only hlt) h6 hc2 hcm2 hbits hcn).mono ?_
    rintro r w3 ⟨rfl, A3, c3, hb3, hs3, hc3, hcm3, ho3⟩
    have hW3 := hW2.next hb3 ho3 hlt
    have HS3 := Lib.hid hs3
    have g0 := hW3.box.cell
    clear hs3 hb3 ho3
    go_wp2_with fail
    go_ret
    exact ⟨rfl, A3, c3, hW3.blk, HS3.out, hc3, hcm3, hW3.only⟩
set_option maxRecDepth 100000 in
set_option maxHeartbeats 6400000 in
theorem next_ite (n : Nd) (a d g : Fm) (h1 : n.op = 13) (iha : NextOkT a) (ihd : NextOkT d) (ihg : NextOkT g) : NextOkT (.ite n a d g) := by
  intro rest w wb A c An ss cn bits hB hsl hss h6 hc hcm hbits hcn
  have HI := Lib.hid (fun w wb A c => iha (d.enc ++ (g.enc ++ rest)) w wb A c An ss cn bits)
  have HJ := Lib.hid (fun w wb A c => ihd (g.enc ++ rest) w wb A c An ss cn bits)
  have HG := Lib.hid (fun w wb A c => ihg rest w wb A c An ss cn bits)
  simp only [Fm.enc, List.cons_append, List.length_cons, List.append_assoc] at hc hB hsl
  have HE : Hid ((Fm.ite n a d g).ev (vB ss noneV bits) = if a.ev (vB ss noneV bits) = true then d.ev (vB ss noneV bits) else g.ev (vB ss noneV bits)) := rfl
  rw [HE.out]
  obtain ⟨va, hva⟩ : ∃ va, a.ev (vB ss noneV bits) = va := ⟨_, rfl⟩
  obtain ⟨vd, hvd⟩ : ∃ vd, d.ev (vB ss noneV bits) = vd := ⟨_, rfl⟩
  obtain ⟨vg, hvg⟩ : ∃ vg, g.ev (vB ss noneV bits) = vg := ⟨_, rfl⟩
  rw [hva] at HI
  rw [hvd] at HJ
  rw [hvg] at HG
  rw [hva, hvd, hvg]
  clear HE iha ihd ihg hva hvd hvg
  generalize g.enc ++ rest = T3 at hc hB hsl HI HJ HG
  generalize d.enc ++ T3 = T2 at hc hB hsl HI HJ
  generalize a.enc ++ T2 = T at hc hB hsl HI
  have hcell := hB.cell
  have hfz := hB.frozen
  have hlt := hB.lt
  obtain ⟨b, o, A1, rfl, hb, ⟨f0, f1, f2, f3⟩, hs1, hsl1⟩ := wk_head hsl hc
  have hbw : b < w.heap.size := by omega
  have HS := Lib.hid hs1
  have HB := Lib.hid hB
  have HSS := Lib.hid hss
  clear hsl hB hs1 hss
  unfold wkV at hcell
  rw [h1] at f0
  cases va
  all_goals
    go_enter Tryz.func83, Tryz.ntmps83
    go_wp2_with fail
    have hW := wk_world HB.out #[.int .i64 13, .int .i64 n.n, .string n.s, .string n.t] A1 T.length (c - 1)
    generalize (w.setCell _ _).alloc _ = w1 at hW ⊢
    refine (HI.out w1 wb A1 (c - 1) hW.blk (HS.out.wk hW.only hlt) (HSS.out.wk hW.only hlt) h6 (by omega) (by omega) hbits hcn).mono ?_
    rintro r w2 ⟨rfl, A2, c2, hb2, hs2, hc2, hcm2, ho2⟩
    have hW2 := hW.next hb2 ho2 hlt
    have HS2 := Lib.hid hs2
    clear hs2 hb2 ho2 hcell hfz f0 f1 f2 f3
    go_wp2_with fail
    refine (HJ.out w2 wb A2 c2 hW2.blk HS2.out (HSS.out.wk hW2.only hlt) h6 hc2 hcm2 hbits hcn).mono ?_
    rintro r w3 ⟨rfl, A3, c3, hb3, hs3, hc3, hcm3, ho3⟩
    have hW3 := hW2.next hb3 ho3 hlt
    have HS3 := Lib.hid hs3
    have g0 := hW3.box.cell
    clear hs3 hb3 ho3
    go_wp2_with fail
    refine (HG.out w3 wb A3 c3 hW3.blk HS3.out (HSS.out.wk hW3.only hlt) h6 hc3 hcm3 hbits hcn).mono ?_
    rintro r w4 ⟨rfl, A4, c4, hb4, hs4, hc4, hcm4, ho4⟩
    have hW4 := hW3.next hb4 ho4 hlt
    have HS4 := Lib.hid hs4
    clear hs4 hb4 ho4 g0
    go_wp2_with fail
    go_ret
    exact ⟨rfl, A4, c4, hW4.blk, HS4.out, hc4, hcm4, hW4.only⟩
theorem next_allT : ∀ (f : Fm), f.Ok → NextOkT f
  | .lit n, h => next_lit n h
  | .var n, h => next_var n h
  | .neg n a, h => next_neg n a h.1 (next_allT a h.2)
  | .two n a d, h => by
    rcases h.1 with h1 | h1 | h1
    · exact next_two11 n a d h1 (next_allT a h.2.1) (next_allT d h.2.2)
    · exact next_two12 n a d h1 (next_allT a h.2.1) (next_allT d h.2.2)
    · exact next_two14 n a d h1 (next_allT a h.2.1) (next_allT d h.2.2)
  | .ite n a d g, h => next_ite n a d g h.1 (next_allT a h.2.1) (next_allT d h.2.2.1) (next_allT g h.2.2.2)
end Go.Proofs.YtpheiojmcafolaaGreatDoor
namespace Go.Proofs.YtpheiojmcafolaaGreatDoor
open Go.RowKit Go.Sort Go.Shelf
attribute [local go_sem] Oper.semAt_some
def bC (b : Bool) : List Value := [.bool b]
theorem bC_ok : EncOk bC 1 := ⟨fun _ => rfl, by omega, fun x u hu => by
  simp only [bC, List.mem_cons, List.not_mem_nil, or_false] at hu
  subst hu; rfl⟩
abbrev BoSl := SlG bC 1
theorem bo_info : (Tryz.prog.info? 4).map (fun i => (i.zero, i.size, i.bytes)) = some (some (.bool false), 1, 1) := by kernel_rfl
theorem flat_bC (xs : List Bool) : flatG bC xs = xs.map Value.bool := by
  induction xs with
  | nil => rfl
  | cons x r ih => show bC x ++ flatG bC r = _; rw [ih]; rfl
/-- A list of bools that a call hands back. -/
def BosRet (w : World) (r : Ending) (w' : World) (xs : List Bool) : Prop :=
  ∃ A c, r = .returned (.slice A xs.length c) ∧ xs.length ≤ c ∧ c ≤ 9223372036854775807 ∧ BoSl w' w'.heap.size A xs ∧ RowKit.Below w.heap.size w w'
set_option maxRecDepth 100000 in
set_option maxHeartbeats 2000000 in
/-- slices.AppendSeq(nil, seq), of an iterator that gives just xs. -/
theorem appendSeq_b (w : World) (g : Nat) (lb : Array Value) (xs : List Bool) (hlen : xs.length ≤ 64) (eg : ∀ args w, (callFunc g args).run Tryz.prog w = .ok (.enter g args) w)
    (hseq : SeqStopsK Fence.wide 8 Tryz.prog g lb (fun b : Bool => #[Value.bool b]) (RowKit.Below w.heap.size) (fun ys => ys = xs) (fun _ => True) xs.length w) :
    Calls Tryz.prog 81 #[.slice none 0 0, .func (.func g) #[] lb] w fun r w' => BosRet w r w' xs := by
  refine (callsIn_wide (n := 9)).1 ?_
  have hro : Fence.wide.round = none := rfl
  obtain ⟨i0, hi, hz0, hz1, hz2⟩ := info_parts bo_info
  refine callsIn_of_wp_marks Tryz.func81 rfl trivial ?_ hro
  simp only [Tryz.ntmps81, List.size_toArray, List.length_cons, List.length_nil, Nat.reduceAdd, Nat.reduceSub, Array.replicate_succ, Array.replicate_zero, List.push_toArray, List.append_toArray, List.nil_append, List.cons_append]
  gi_wp2
  have bO := Boxed.new w 25 (.slice none 0 0)
  have hB0 : RowKit.Below w.heap.size w (w.alloc (.cells #[.slice none 0 0] 25)) := (RowKit.Below.refl _ w).alloc (Nat.le_refl _) _
  refine wpIn_rangeFunc_ownG hro (by omega) (gf := g) (lb := lb) rfl trivial eg hseq belowK_t (belowK_b (by simp)) hB0 (fun _ => rfl)
    (fun pre W => (∃ v, Boxed W w.heap.size 25 v ∧ W.ownsRow w.heap.size 4 1 v pre.length (pre.map Value.bool) ∧ True) ∧ RowKit.Below w.heap.size w W)
    (fun _ _ _ => False)
    (OwnFrom.and (Own.from (holdsRow_own w.heap.size w.heap.size 25 4 1 (fun pre : List Bool => pre.length) (fun pre => pre.map Value.bool) (fun pre v => True)) _) (ownFrom_below (Nat.le_refl _) (by simp)))
    (fun _ _ _ _ _ hs _ _ => hs)
    ⟨⟨_, bO, World.ownsRow_nil _ _ _ _, trivial⟩, hB0⟩
    (fun x => { tmps := #[.slice none 0 0, .func (.func g) #[] lb, .pointer (some ⟨w.heap.size, 0, none⟩), undef, .slice none 0 0, .bool x, .func (.func g) #[] lb, .bool x, undef, undef, undef, undef, undef], defers := [] }) ?assign ?body ?done ?stop
  case assign =>
    intro l x W K hK
    gi_wp2
    exact hK
  case body =>
    rintro l pre x W ⟨⟨v, hv, hrow, -⟩, hB⟩ hlt
    have hc := hv.cell
    gi_wp2_with (gi_at_builtin; refine wpListIn_append_own _ rfl _ _ 25 rfl w.heap.size 4 i0 (.bool false) 1 1 Tryz.underlying25 hi hz0 hz1 hz2 rfl (by decide) _ _ _ rfl (hrow.alloc _) ⟨W.heap.size, 0, none⟩ 1 1 [.bool x] rfl rfl (cell_one_new _ _ _) (by simp [Value.oneCell']) (by unfold maxLen; omega) (by omega) (by have := hB.size; simp; omega) ?_; intro v' w1 hown' hgrow _; obtain ⟨g', cap', rfl⟩ := ownsRow_succ hown'; obtain ⟨hv1, hv2, hr2, hk2, hb2⟩ := hv.appended (by decide) hrow hB.size (Nat.le_refl _) hown' hgrow; have hc1 := hv1.cell; have hf1 := hv1.frozen)
    exact ⟨hk2.from _, hb2, ⟨_, hv2, by simpa using hr2, trivial⟩, hB.trans hb2⟩
  case done =>
    rintro D ys W hD rfl ⟨⟨v, hv, hrow, -⟩, hB⟩ hK
    rw [← flat_bC] at hrow
    obtain ⟨-, A, c, rfl, hc1, hcm, hs⟩ := own_formG bC_ok hrow
    have hc := hv.cell
    gi_wp2
    refine ⟨by simp, .inl ⟨_, _, rfl, run_takeDeferred hK, ?_⟩⟩
    refine ⟨_, results_tmp rfl _ _ _, A, c, rfl, hc1, hcm, ?_, hB.trans (belowK_b (w := w) (Nat.le_refl _) W D _ _ (by simp at hD; omega) hK rfl rfl)⟩
    have h2 := ownsRow_putObj hrow (.deferred none) hK rfl
    obtain ⟨-, A', c', e, -, -, hs'⟩ := own_formG bC_ok h2
    injection e with e1 e2 e3
    rw [e1]
    exact hs'
  case stop =>
    rintro D c pre W _ _ h _
    exact h.elim
set_option maxHeartbeats 1000000 in
theorem collect_b (w : World) (g : Nat) (lb : Array Value) (xs : List Bool) (hlen : xs.length ≤ 64) (eg : ∀ args w, (callFunc g args).run Tryz.prog w = .ok (.enter g args) w)
    (hseq : SeqStopsK Fence.wide 8 Tryz.prog g lb (fun b : Bool => #[Value.bool b]) (RowKit.Below w.heap.size) (fun ys => ys = xs) (fun _ => True) xs.length w) :
    Calls Tryz.prog 47 #[.func (.func g) #[] lb] w fun r w' => BosRet w r w' xs := by
  have H := Lib.hid (appendSeq_b w g lb xs hlen eg hseq)
  clear hseq eg
  go_enter Tryz.func47, Tryz.ntmps47
  go_wp2_with fail
  refine H.out.mono ?_
  rintro r w1 ⟨A, c, rfl, h1, h2, h3, h4⟩
  have HS := Lib.hid h3
  have H1 := Lib.hid h1
  clear h1 h3
  go_wp2_with fail
  go_ret
  exact ⟨A, c, rfl, H1.out, h2, HS.out, h4⟩
end Go.Proofs.YtpheiojmcafolaaGreatDoor
namespace Go.Proofs.YtpheiojmcafolaaGreatDoor
open Go.RowKit Go.Sort Go.Shelf
attribute [local go_sem] Oper.semAt_some
theorem tabB_step (g : (List UInt8 → Bool) → Bool) (ss : List (List UInt8)) (k : Nat) (hk : k < 2 ^ ss.length) : (tabB g ss).take (k + 1) = (tabB g ss).take k ++ [g (vB ss noneV k)] := by
  rw [List.take_add_one]
  have : (tabB g ss)[k]? = some (g (vB ss noneV k)) := by unfold tabB; rw [List.getElem?_map, List.getElem?_range hk]; rfl
  rw [this]; rfl
/-- The ways in which the atoms can be, one behind the other. -/
structure RowsAt (W : World) (n₀ nb eb : Nat) (A : Option Addr) (e : List Nd) (c : Nat) (An : Option Addr) (ss : List (List UInt8)) (cn : Nat) : Prop where
  nc : W.cell? ⟨nb, 0, none⟩ = some (.slice An ss.length cn)
  ec : W.cell? ⟨eb, 0, none⟩ = some (.slice A e.length c)
  es : NdSl W n₀ A e
  ns : StrSl W n₀ An ss
  nl : nb < n₀
  el : eb < n₀
theorem RowsAt.later {W W' : World} {n₀ nb eb : Nat} {A : Option Addr} {e : List Nd} {c : Nat} {An : Option Addr} {ss : List (List UInt8)} {cn : Nat} (h : RowsAt W n₀ nb eb A e c An ss cn) (hb : RowKit.Below n₀ W W') : RowsAt W' n₀ nb eb A e c An ss cn :=
  ⟨(hb.cell (p := ⟨nb, 0, none⟩) h.nl).trans h.nc, (hb.cell (p := ⟨eb, 0, none⟩) h.el).trans h.ec, h.es.below hb, h.ns.below hb, h.nl, h.el⟩
set_option maxRecDepth 100000 in
set_option maxHeartbeats 2000000 in
theorem rows1_in (l nb eb n₀ : Nat) (A : Option Addr) (e : List Nd) (c : Nat) (An : Option Addr) (ss : List (List UInt8)) (cn : Nat) (f : Fm) (hf : f.Ok) (he : e = f.enc) (h6 : ss.length ≤ 6) (hc : e.length ≤ c) (hcm : c ≤ 9223372036854775807) (hcn : cn ≤ 9223372036854775807)
    (J Jx : List Bool → World → Prop)
    (hY : ∀ pre x W, J pre W → pre.length < (tabB (evL e) ss).length → YieldAt Fence.wide 7 Tryz.prog l #[Value.bool x] W fun r W' =>
      (r = .returned (.bool true) ∧ J (pre ++ [x]) W' ∧ RowKit.Below n₀ W W') ∨ (r = .returned (.bool false) ∧ Jx (pre ++ [x]) W'))
    (W : World) (hJ : AbidesFrom W.heap.size J) (hn : n₀ ≤ W.heap.size) (hR : RowsAt W n₀ nb eb A e c An ss cn) (h0 : J [] W) :
    CallsIn Fence.wide 8 Tryz.prog 82 #[.func (.yield l) #[] #[], .pointer (some ⟨nb, 0, none⟩), .pointer (some ⟨eb, 0, none⟩)] W fun r W' => (∃ v, r = .returned v) ∧
      ((∃ ys, ys = tabB (evL e) ss ∧ J ys W') ∨ (∃ pre, True ∧ Jx pre W')) := by
  have hro : Fence.wide.round = none := rfl
  have HR := Lib.hid hR
  have HE := Lib.hid he
  obtain ⟨p2, hp2⟩ : ∃ p2 : Nat, 2 ^ ss.length = p2 := ⟨_, rfl⟩
  have HTL : Hid ((tabB (evL e) ss).length = p2) := by show _ = _; rw [tabB_len, hp2]
  have hp6 : p2 ≤ 64 := by rw [← hp2]; exact Nat.pow_le_pow_right (by omega) h6
  have HP2 := Lib.hid hp2
  have c0 := hR.nc
  have c1 := hR.ec
  clear hR he
  refine callsIn_of_wp Tryz.func82 rfl trivial ?_ hro
  simp only [Tryz.ntmps82, List.size_toArray, List.length_cons, List.length_nil, Nat.reduceAdd, Nat.reduceSub, Array.replicate_succ, Array.replicate_zero, List.push_toArray, List.append_toArray, List.nil_append, List.cons_append]
  have s1 : IntKind.i64.wrap (2 ^ ss.length) = (p2 : Int) := by
    rw [show ((2 : Int) ^ ss.length) = ((2 ^ ss.length : Nat) : Int) from by simp, hp2]
    exact IntWalk.i64_in _ (by omega)
  clear hp2
  gi_wp2
  gi_loopw [9] (fun kk wr => ∃ k : Nat, kk = .int .i64 k ∧ k ≤ p2 ∧ J ((tabB (evL e) ss).take k) wr ∧ RowKit.Below n₀ W wr) (fun kk _ => p2 - (intOf kk).toNat)
  case atStart => exact ⟨0, rfl, by omega, h0, RowKit.Below.refl _ _⟩
  case round =>
    obtain ⟨k, rfl, hk, hJk, hbr⟩ := hrel
    have hRr := HR.out.later hbr
    have d0 := hRr.nc
    have d1 := hRr.ec
    have hWr : W.heap.size ≤ wr.heap.size := by have := hbr.size; omega
    clear c0 c1
    by_cases hlt : k < p2
    · have HB := Blk.new wr 143 (wkV A e.length c An ss.length cn k)
      have HN := Lib.hid (next_allT f hf [] (wr.alloc (.cells (wkV A e.length c An ss.length cn k) 143)) wr.heap.size A c An ss cn k
        (by rw [List.append_nil, ← HE.out]; exact HB)
        (by rw [List.append_nil, ← HE.out]; exact ((hRr.es.below ((RowKit.Below.refl _ _).alloc (by omega) _)).more (by omega)))
        ((hRr.ns.below ((RowKit.Below.refl _ _).alloc (by omega) _)).more (by omega)) h6 (by rw [List.append_nil, ← HE.out]; exact hc) hcm (by rw [HP2.out]; exact hlt) hcn)
      have HST := Lib.hid (tabB_step (evL e) ss k (by rw [HP2.out]; exact hlt))
      have HEV : Hid (f.ev (vB ss noneV k) = evL e (vB ss noneV k)) := by show _ = _; rw [HE.out, evL_enc _ hf]
      rw [HEV.out] at HN
      generalize evL e (vB ss noneV k) = x at HN HST
      gi_wp2_with (refine ⟨trivial, ?_⟩; gi_at_call 83; refine (callsIn_wide.2 HN.out).mono ?_; rintro r w2 ⟨rfl, A2, c2, hb2, hs2, hc2, hcm2, ho2⟩; have hbw : RowKit.Below wr.heap.size wr w2 := ((RowKit.Below.refl _ _).alloc (Nat.le_refl _) _).trans (ho2.below (by simp) (Nat.le_refl _)); have hJ2 : J ((tabB (evL e) ss).take k) w2 := hJ _ wr w2 none hJk ⟨hbw.os, hbw.tape, hbw.output, hbw.size, fun q hq _ => hbw.block q hq⟩ (fun r e => by cases e); have hb3 : RowKit.Below n₀ W w2 := hbr.trans (hbw.mono (by omega)); obtain ⟨fn, tmps, assign, body, hy, hRR⟩ := hY _ x w2 hJ2 (by rw [HTL.out, List.length_take, HTL.out]; omega))
      refine hRR.mono ?_
      rintro r W3 (⟨rfl, hJ3, hk3⟩ | ⟨rfl, hJx3⟩)
      · gi_wp2
        exact ⟨⟨k + 1, by go_num, by omega, by rw [HST.out]; exact hJ3, hb3.trans hk3⟩, by simp [intOf]; omega⟩
      · gi_wp2
        refine bodyPost_ret (results_none rfl _ _ _) rfl ?_
        exact ⟨⟨_, rfl⟩, .inr ⟨_, trivial, hJx3⟩⟩
    · have HTA : Hid ((tabB (evL e) ss).take k = tabB (evL e) ss) := by show _ = _; rw [List.take_of_length_le (by rw [HTL.out]; omega)]
      gi_wp2
      go_end0
      exact ⟨⟨_, rfl⟩, .inl ⟨_, rfl, by rw [← HTA.out]; exact hJk⟩⟩
set_option maxHeartbeats 1000000 in
theorem truth_rows (A : Option Addr) (n c : Nat) (An : Option Addr) (m cn : Nat) (w : World) : Calls Tryz.prog 48 #[.slice A n c, .slice An m cn] w fun r w' => r = .returned (.func (.func 82) #[] #[.pointer (some ⟨w.heap.size + 1, 0, none⟩), .pointer (some ⟨w.heap.size, 0, none⟩)]) ∧ w' = (w.alloc (.cells #[.slice A n c] 22)).alloc (.cells #[.slice An m cn] 23) := by
  go_enter Tryz.func48, Tryz.ntmps48
  go_wp2_with fail
  go_ret
  exact ⟨rfl, rfl⟩
/-- The rows of a formula, collected. -/
theorem rows_collect (A : Option Addr) (e : List Nd) (c : Nat) (An : Option Addr) (ss : List (List UInt8)) (cn : Nat) (f : Fm) (hf : f.Ok) (he : e = f.enc) (h6 : ss.length ≤ 6) (hc : e.length ≤ c) (hcm : c ≤ 9223372036854775807) (hcn : cn ≤ 9223372036854775807) (w : World)
    (hsl : NdSl w w.heap.size A e) (hss : StrSl w w.heap.size An ss) :
    Calls Tryz.prog 47 #[.func (.func 82) #[] #[.pointer (some ⟨w.heap.size + 1, 0, none⟩), .pointer (some ⟨w.heap.size, 0, none⟩)]] ((w.alloc (.cells #[.slice A e.length c] 22)).alloc (.cells #[.slice An ss.length cn] 23)) fun r w' => BosRet w r w' (tabB (evL e) ss) := by
  obtain ⟨w2, hw2⟩ : ∃ w2, (w.alloc (.cells #[.slice A e.length c] 22)).alloc (.cells #[.slice An ss.length cn] 23) = w2 := ⟨_, rfl⟩
  have hb : RowKit.Below w.heap.size w w2 := by rw [← hw2]; (repeat (first | assumption | exact Below.refl _ _ | apply Below.drew | apply below_drewN | (refine Below.alloc ?_ (by first | exact Nat.le_refl _ | omega | (simp; done) | (simp; omega)) _)))
  have hz : w2.heap.size = w.heap.size + 2 := by rw [← hw2]; simp
  have hR : RowsAt w2 w2.heap.size (w.heap.size + 1) w.heap.size A e c An ss cn := by
    have hs1 := (hsl.below hb).more hb.size
    have hs2 := (hss.below hb).more hb.size
    have c1 := (Blk.new (w.alloc (.cells #[.slice A e.length c] 22)) 23 #[.slice An ss.length cn]).cell 0
    have c2 := ((Blk.new w 22 #[.slice A e.length c]).alloc (.cells #[.slice An ss.length cn] 23)).cell 0
    rw [World.size_alloc, hw2] at c1
    rw [hw2] at c2
    exact ⟨c1, c2, hs1, hs2, by omega, by omega⟩
  rw [hw2]
  have hl : (tabB (evL e) ss).length ≤ 64 := by rw [tabB_len]; exact Nat.pow_le_pow_right (by omega) h6
  refine (collect_b w2 82 #[.pointer (some ⟨w.heap.size + 1, 0, none⟩), .pointer (some ⟨w.heap.size, 0, none⟩)] (tabB (evL e) ss) hl (enters_of Tryz.func82 (by kernel_rfl) rfl)
    (fun l J Jx W hW hJ hJx hY h0 => rows1_in l (w.heap.size + 1) w.heap.size w2.heap.size A e c An ss cn f hf he h6 hc hcm hcn J Jx hY W hJ hW.size (hR.later hW) h0)).mono ?_
  rintro r w' ⟨A', c', h1, h2, h3, h4, h5⟩
  exact ⟨A', c', h1, h2, h3, h4, hb.trans (h5.mono hb.size)⟩
/-- Bools, and the number of what is wrong. -/
def BosBack (w : World) (r : Ending) (w' : World) (xs : List Bool) (k : Int) : Prop :=
  ∃ A c, r = .returned (.tuple #[.slice A xs.length c, errV k]) ∧ xs.length ≤ c ∧ c ≤ 9223372036854775807 ∧ BoSl w' w'.heap.size A xs ∧ RowKit.Below w.heap.size w w'
set_option maxRecDepth 100000 in
set_option maxHeartbeats 3200000 in
theorem truth_Table (e : List Nd) (A : Option Addr) (c : Nat) (ss : List (List UInt8)) (An : Option Addr) (cn : Nat) (w : World) (hc : e.length ≤ c) (hcm : c ≤ 9223372036854775807) (hok : NdOk e) (hsl : NdSl w w.heap.size A e) (hss : StrSl w w.heap.size An ss) (hn : ss.length ≤ cn) (hcn : cn ≤ 9223372036854775807) :
    Calls Tryz.prog 16 #[.slice A e.length c, .slice An ss.length cn] w fun r w' => BosBack w r w' (tableP e ss).1 (frmErr e ss) := by
  have HC := Lib.hid (truth_check e A c w hc hcm hok hsl)
  by_cases ht : treeErr e = 0
  · rw [ht] at HC
    have hel := (tree_len ht).1
    have HA := Lib.hid (fun W (hW : RowKit.Below w.heap.size w W) => truth_atoms e A c ss An cn W (by omega) ((hsl.below hW).more hW.size) ((hss.below hW).more hW.size) hn hcn)
    by_cases ha : atomsErr e ss = 0
    · have hf0 : frmErr e ss = 0 := frm_ok.2 ⟨ht, ha⟩
      obtain ⟨f, hf, he⟩ := frm_fm hf0
      have HR := Lib.hid (fun W (hW : RowKit.Below w.heap.size w W) => rows_collect A e c An ss cn f hf he (atoms_ok.1 ha).1 hc hcm hcn W ((hsl.below hW).more hW.size) ((hss.below hW).more hW.size))
      have HT : Hid ((tableP e ss).1 = tabB (evL e) ss) := by show _ = _; unfold tableP; rw [if_neg (by simp [hf0])]
      rw [ha] at HA
      rw [HT.out, hf0]
      clear ht ha hf0 hf he hc hok hsl hss HT
      generalize tabB (evL e) ss = T at HR ⊢
      go_enter Tryz.func16, Tryz.ntmps16
      go_wp2_with fail
      refine HC.out.mono ?_
      rintro r w1 ⟨rfl, hb1⟩
      have t0 := errV_zero
      go_wp2_with fail
      refine (HA.out _ hb1).mono ?_
      rintro r w2 ⟨rfl, hb2⟩
      have hw2 := hb1.trans (hb2.mono hb1.size)
      clear hb1 hb2
      go_wp2_with fail
      refine (truth_rows A e.length c An ss.length cn w2).mono ?_
      rintro r w3 ⟨rfl, rfl⟩
      go_wp2_with fail
      refine (HR.out _ hw2).mono ?_
      rintro r w4 ⟨A4, c4, rfl, h41, h42, h43, h44⟩
      have HS := Lib.hid h43
      have H1 := Lib.hid h41
      clear h43 h41
      go_wp2_with fail
      go_ret2
      exact ⟨A4, c4, rfl, H1.out, h42, HS.out, hw2.trans (h44.mono hw2.size)⟩
    · have hf0 : frmErr e ss = atomsErr e ss := by unfold frmErr; rw [if_neg (by simp [ht])]
      have HT : Hid ((tableP e ss).1 = []) := by show _ = _; unfold tableP; rw [if_pos (by rw [hf0]; exact ha)]
      have tk : (atomsErr e ss != 0) = true := by simp [ha]
      rw [HT.out, hf0]
      clear ht ha hf0 hc hok hsl hss HT
      generalize atomsErr e ss = k at HA tk ⊢
      go_enter Tryz.func16, Tryz.ntmps16
      go_wp2_with fail
      refine HC.out.mono ?_
      rintro r w1 ⟨rfl, hb1⟩
      have t0 := errV_zero
      go_wp2_with fail
      refine (HA.out _ hb1).mono ?_
      rintro r w2 ⟨rfl, hb2⟩
      have hw2 := hb1.trans (hb2.mono hb1.size)
      clear hb1 hb2
      go_wp2_with fail
      go_ret2
      exact ⟨none, 0, rfl, Nat.le_refl _, by omega, SlG.nil _ _ _, hw2⟩
  · have hf0 : frmErr e ss = treeErr e := by unfold frmErr; rw [if_pos ht]
    have HT : Hid ((tableP e ss).1 = []) := by show _ = _; unfold tableP; rw [if_pos (by rw [hf0]; exact ht)]
    have tk : (treeErr e != 0) = true := by simp [ht]
    rw [HT.out, hf0]
    clear ht hf0 hc hok hsl hss HT
    generalize treeErr e = k at HC tk ⊢
    go_enter Tryz.func16, Tryz.ntmps16
    go_wp2_with fail
    refine HC.out.mono ?_
    rintro r w1 ⟨rfl, hb1⟩
    go_wp2_with fail
    go_ret2
    exact ⟨none, 0, rfl, Nat.le_refl _, by omega, SlG.nil _ _ _, hb1⟩
end Go.Proofs.YtpheiojmcafolaaGreatDoor
