/-
  THE WALKS of the reference: among, AtomsFault, FormulaFault.
  PLAIN LAW: the reference's rows of a table: a counter of bits.
  THE WALK of the reference: Is.
-/
import Derived.Test.YtnhcjpmamgdeoaaDoorTrA
import Derived.Test.YtnhcjpmamgdeoaaDoorRef5
import Derived.Test.YtnhcjpmamgdeoaaDoorTrP2
import Derived.Test.YtnhcjpmamgdeoaaDoorRef19
import Derived.Test.YtnhcjpmamgdeoaaDoorTrF
namespace Go.Proofs.YtnhcjpmamgdeoaaDoor
open Go.RowKit Go.Sort

theorem str_at {w : World} {B : Nat} {A : Option Addr} {ss : List (List UInt8)} (h : StrSl w B A ss) {k : Nat} {x : List UInt8} (hx : ss[k]? = some x) :
    ∃ b o, A = some ⟨b, o, none⟩ ∧ b < B ∧ ∀ (j : Nat) (y : List UInt8), ss[j]? = some y → ∃ sx : ByteArray, w.cell? ⟨b, o + j, none⟩ = some (.string sx) ∧ sx.toList = y := by
  obtain ⟨b, o, rfl, hb, hc⟩ := h.at_ (List.getElem?_eq_some_iff.1 hx).1
  exact ⟨b, o, rfl, hb, fun j y hy => ⟨bsL y, hc j y hy, bsL_toList y⟩⟩
set_option maxRecDepth 100000 in
set_option maxHeartbeats 3200000 in
theorem r4_among (s : ByteArray) (ss : List (List UInt8)) (A : Option Addr) (c : Nat) (w : World) (hs : StrSl w w.heap.size A ss) (hl : ss.length ≤ 9223372036854775807) :
    Calls Tryd.prog 28 #[.string s, .slice A ss.length c] w fun e w' => e = .returned (.bool (ss.contains s.toList)) ∧ w = w' := by
  obtain ⟨q, hq⟩ : ∃ q, ss.contains s.toList = q := ⟨_, rfl⟩
  rw [hq]
  have HQ := Lib.hid hq
  have HS := Lib.hid hs
  clear hq hs
  go_enter Tryd.func28, Tryd.ntmps28
  go_wp2_with fail
  go_loop [5] (fun ii => ∃ k : Nat, ii = .int .i64 k ∧ k ≤ ss.length ∧ Hid (s.toList ∉ ss.take k)) (fun ii => ss.length - (intOf ii).toNat)
  case atStart => exact ⟨0, rfl, by omega, by simp [Hid]⟩
  case round =>
    obtain ⟨k, rfl, hk, HK⟩ := hrel
    by_cases hlt : k < ss.length
    · obtain ⟨x, hx⟩ : ∃ x, ss[k]? = some x := ⟨_, List.getElem?_eq_getElem hlt⟩
      obtain ⟨b, o, rfl, hb, hcs⟩ := str_at HS.out hx
      obtain ⟨sx, c0, hsx⟩ := hcs k x hx
      have HX := Lib.hid hx
      have HSX := Lib.hid hsx
      clear hx hcs hsx
      by_cases hm : sx.toList = s.toList
      · have tm : (sx.toList == s.toList) = true := by simp [hm]
        have hv : Hid (q = true) := by
          show _ = _
          rw [← HQ.out, ← hm, HSX.out]
          simpa using List.mem_of_getElem? HX.out
        clear hm
        go_wp2_with fail
        go_ret
        rw [hv.out]
        exact ⟨rfl, rfl⟩
      · have tm : (sx.toList == s.toList) = false := by simp [hm]
        have HK2 : Hid (s.toList ∉ ss.take (k + 1)) := by
          show _ ∉ _
          rw [List.take_add_one, HX.out]
          simp only [Option.toList, List.mem_append, List.mem_singleton, not_or]
          exact ⟨HK.out, fun h => hm (by rw [HSX.out, h])⟩
        clear hm
        go_wp2_with fail
        exact ⟨⟨k + 1, by go_num, by omega, HK2⟩, by simp [intOf]; omega⟩
    · have hv : Hid (q = false) := by
        show _ = _
        have := HK.out
        rw [List.take_of_length_le (by omega)] at this
        rw [← HQ.out]
        simpa using this
      go_wp2_with fail
      go_ret
      rw [hv.out]
      exact ⟨rfl, rfl⟩
set_option maxRecDepth 100000 in
set_option maxHeartbeats 6400000 in
theorem r4_AtomsFault (e : List Nd) (A : Option Addr) (c : Nat) (ss : List (List UInt8)) (An : Option Addr) (cn : Nat) (w : World) (hl : e.length ≤ 100000) (hsl : NdSl w w.heap.size A e) (hs : StrSl w w.heap.size An ss) (hn : ss.length ≤ cn) (hnm : cn ≤ 9223372036854775807) :
    Calls Tryd.prog 15 #[.slice A e.length c, .slice An ss.length cn] w fun r w' => r = .returned (.int .i64 (atomsErr e ss)) ∧ RowKit.Below w.heap.size w w' := by
  obtain ⟨q, hq⟩ : ∃ q, atomsErr e ss = q := ⟨_, rfl⟩
  rw [hq]
  have HQ := Lib.hid hq
  have HC := Lib.hid (fun W (hW : RowKit.Below w.heap.size w W) (s : ByteArray) => r4_among s ss An cn W ((hs.below hW).more hW.size) (by omega))
  have HS := Lib.hid hs
  have HE := Lib.hid hsl
  clear hq hsl hs
  go_enter Tryd.func15, Tryd.ntmps15
  by_cases h6 : 6 < ss.length
  · have t6 : 6 < (ss.length : Int) := by omega
    have hv : Hid (q = 4) := by show _ = _; rw [← HQ.out, atomsErr, if_pos h6]
    go_wp2_with fail
    go_ret
    rw [hv.out]
    exact ⟨rfl, RowKit.Below.refl _ _⟩
  · have t6 : ¬ 6 < (ss.length : Int) := by omega
    go_wp2_with fail
    go_loopw [5] (fun ii wr => ∃ k : Nat, ii = .int .i64 k ∧ k ≤ ss.length ∧ Hid ((ss.take k).Nodup) ∧ RowKit.Below w.heap.size w wr) (fun ii _ => ss.length - (intOf ii).toNat)
    case atStart => exact ⟨0, rfl, by omega, List.nodup_nil, RowKit.Below.refl _ _⟩
    case round =>
      obtain ⟨k, rfl, hk, HK, hbk⟩ := hrel
      obtain ⟨w1, hw1⟩ : ∃ w1 : World, w1 = wr := ⟨_, rfl⟩
      rw [← hw1] at hbk ⊢
      clear hw1
      by_cases hlt : k < ss.length
      · obtain ⟨x, hx⟩ : ∃ x, ss[k]? = some x := ⟨_, List.getElem?_eq_getElem hlt⟩
        go_wp2_with fail
        have HX := Lib.hid hx
        clear hx
        go_loopw [6] (fun ii wr => ∃ j : Nat, ii = .int .i64 j ∧ j ≤ k ∧ Hid (x ∉ ss.take j) ∧ RowKit.Below w.heap.size w wr) (fun ii _ => k - (intOf ii).toNat)
        case atStart => exact ⟨0, rfl, by omega, by simp [Hid], hbk⟩
        case round =>
          obtain ⟨j, rfl, hj, HJ, hbj⟩ := hrel
          have hzj := hbj.size
          by_cases hlj : j < k
          · obtain ⟨y, hy⟩ : ∃ y, ss[j]? = some y := ⟨_, List.getElem?_eq_getElem (by omega)⟩
            obtain ⟨b, o, rfl, hb, hcs⟩ := str_at (HS.out.below hbj) hy
            obtain ⟨sy, c0, hsy⟩ := hcs j y hy
            obtain ⟨sx, c1, hsx⟩ := hcs k x HX.out
            have HY := Lib.hid hy
            have HSX := Lib.hid hsx
            have HSY := Lib.hid hsy
            have hjl : (j : Int) < ss.length := by omega
            have hkl : (k : Int) < ss.length := by omega
            clear hy hcs hsx hsy
            by_cases hm : sx.toList = sy.toList
            · have tm : (sx.toList == sy.toList) = true := by simp [hm]
              have hv : Hid (q = 6) := by
                show _ = _
                rw [← HQ.out, atomsErr, if_neg h6, if_pos]
                intro h
                have h1 := (nodup_take HX.out).1 (List.Pairwise.sublist (List.take_sublist _ _) h)
                refine h1.2 ?_
                rw [← HSX.out, hm, HSY.out]
                exact List.mem_of_getElem? (i := j) (by rw [List.getElem?_take, if_pos hlj]; exact HY.out)
              clear hm
              go_wp2_with fail
              go_quiet (fail)
              go_wp2_with fail
              go_ret
              rw [hv.out]
              exact ⟨rfl, by (repeat (first | assumption | exact Below.refl _ _ | apply Below.drew | apply below_drewN | (refine Below.alloc ?_ (by first | exact Nat.le_refl _ | omega | (simp; done) | (simp; omega)) _)))⟩
            · have tm : (sx.toList == sy.toList) = false := by simp [hm]
              have HJ2 : Hid (x ∉ ss.take (j + 1)) := by
                show _ ∉ _
                rw [List.take_add_one, HY.out]
                simp only [Option.toList, List.mem_append, List.mem_singleton, not_or]
                exact ⟨HJ.out, fun h => hm (by rw [HSX.out, HSY.out, h])⟩
              clear hm
              go_wp2_with fail
              go_quiet (fail)
              go_wp2_with fail
              exact ⟨⟨j + 1, by go_num, by omega, HJ2, by (repeat (first | assumption | exact Below.refl _ _ | apply Below.drew | apply below_drewN | (refine Below.alloc ?_ (by first | exact Nat.le_refl _ | omega | (simp; done) | (simp; omega)) _)))⟩, by simp [intOf]; omega⟩
          · have hjk : j = k := by omega
            have HK2 : Hid ((ss.take (k + 1)).Nodup) := by
              refine (nodup_take HX.out).2 ⟨HK.out, ?_⟩
              have := HJ.out
              rwa [hjk] at this
            go_wp2_with fail
            exact ⟨⟨k + 1, by go_num, by omega, HK2, hbj⟩, by simp [intOf]; omega⟩
      · have HND : Hid (ss.Nodup) := by
          have := HK.out
          rw [List.take_of_length_le (by omega)] at this
          exact this
        clear HK
        go_wp2_with fail
        go_loopw [7] (fun ii wr => ∃ j : Nat, ii = .int .i64 j ∧ j ≤ e.length ∧ Hid ((e.take j).all fmOp = true) ∧ RowKit.Below w.heap.size w wr) (fun ii _ => e.length - (intOf ii).toNat)
        case atStart => exact ⟨0, rfl, by omega, rfl, hbk⟩
        case round =>
          obtain ⟨j, rfl, hj, HJ, hbr⟩ := hrel
          have hzr := hbr.size
          by_cases hlj : j < e.length
          · obtain ⟨y, hy⟩ : ∃ y, e[j]? = some y := ⟨_, List.getElem?_eq_getElem hlj⟩
            obtain ⟨bn, on, rfl, hbn, hcs⟩ := (HE.out.below hbr).at_ hlj
            obtain ⟨f0, f1, f2, f3⟩ := hcs j y hy
            have hbw : bn < wr.heap.size := by omega
            have HY := Lib.hid hy
            clear hy hcs
            by_cases hf : fmOp y = true
            · have HJ2 : Hid ((e.take (j + 1)).all fmOp = true) := by
                show _ = _
                rw [List.take_add_one, HY.out, List.all_append, HJ.out]
                simp [hf]
              have hcase := fmOp_cases hf
              clear hf
              rcases hcase with h | h | h | (h | h | h) | h
              all_goals
                rw [h] at f0
                go_wp2_with fail
                exact ⟨⟨j + 1, by go_num, by omega, HJ2, hbr⟩, by simp [intOf]; omega⟩
            · have hall : Hid (e.all fmOp = false) := by
                show _ = _
                rw [List.all_eq_false]
                exact ⟨y, List.mem_of_getElem? HY.out, hf⟩
              have hv : Hid (q = 2) := by
                show _ = _
                rw [← HQ.out, atomsErr, if_neg h6, if_neg (not_not_intro HND.out), if_pos hall.out]
              unfold fmOp at hf
              simp only [Bool.or_eq_true, not_or, Bool.not_eq_true] at hf
              obtain ⟨⟨⟨⟨⟨⟨g1, g2⟩, g3⟩, g4⟩, g5⟩, g6⟩, g7⟩ := hf
              have k1 : (y.op != 1) = true := by simpa using g1
              have k2 : (y.op != 9) = true := by simpa using g2
              have k3 : (y.op != 11) = true := by simpa using g3
              have k4 : (y.op != 12) = true := by simpa using g4
              have k5 : (y.op != 13) = true := by simpa using g5
              have k6 : (y.op != 14) = true := by simpa using g6
              have k7 : (y.op != 8) = true := by simpa using g7
              clear g1 g2 g3 g4 g5 g6 g7
              go_wp2_with fail
              go_ret
              rw [hv.out]
              exact ⟨rfl, hbr⟩
          · have HALL : Hid (e.all fmOp = true) := by
              have := HJ.out
              rw [List.take_of_length_le (by omega)] at this
              exact this
            clear HJ
            obtain ⟨w2, hw2⟩ : ∃ w2 : World, w2 = wr := ⟨_, rfl⟩
            rw [← hw2] at hbr ⊢
            clear hw2
            go_wp2_with fail
            go_loopw [9] (fun ii wr => ∃ i : Nat, ii = .int .i64 i ∧ i ≤ e.length ∧ Hid ((e.take i).any (missB ss) = false) ∧ RowKit.Below w.heap.size w wr) (fun ii _ => e.length - (intOf ii).toNat)
            case atStart => exact ⟨0, rfl, by omega, rfl, hbr⟩
            case round =>
              obtain ⟨i, rfl, hi, HI, hb3⟩ := hrel
              have hz3 := hb3.size
              by_cases hli : i < e.length
              · obtain ⟨y, hy⟩ : ∃ y, e[i]? = some y := ⟨_, List.getElem?_eq_getElem hli⟩
                obtain ⟨bn, on, rfl, hbn, hcs⟩ := (HE.out.below hb3).at_ hli
                obtain ⟨f0, f1, f2, f3⟩ := hcs i y hy
                have hbw : bn < wr.heap.size := by omega
                have HY := Lib.hid hy
                have HST : Hid ((e.take (i + 1)).any (missB ss) = missB ss y) := by
                  show _ = _
                  rw [List.take_add_one, HY.out, List.any_append, HI.out]
                  simp
                clear hy hcs
                by_cases h8 : y.op = 8
                · have t8 : (y.op == 8) = true := by simp [h8]
                  have HM : Hid (missB ss y = !ss.contains y.s.toList) := by show _ = _; unfold missB; rw [t8]; rfl
                  have HCC := Lib.hid (HC.out wr hb3 y.s)
                  clear h8
                  by_cases hm : y.s.toList ∈ ss
                  · have tm : Hid (ss.contains y.s.toList = true) := by show _ = _; simpa using hm
                    have HI2 : Hid ((e.take (i + 1)).any (missB ss) = false) := by show _ = _; rw [HST.out, HM.out, tm.out]; rfl
                    clear hm
                    go_wp2_with fail
                    refine HCC.out.mono ?_
                    rintro r w4 ⟨rfl, rfl⟩
                    rw [tm.out]
                    go_wp2_with fail
                    exact ⟨⟨i + 1, by go_num, by omega, HI2, hb3⟩, by simp [intOf]; omega⟩
                  · have tm : Hid (ss.contains y.s.toList = false) := by show _ = _; simpa using hm
                    have hv : Hid (q = 3) := by
                      show _ = _
                      rw [← HQ.out, atomsErr, if_neg h6, if_neg (not_not_intro HND.out), if_neg (by rw [HALL.out]; simp), if_pos]
                      rw [List.any_eq_true]
                      exact ⟨y, List.mem_of_getElem? HY.out, by rw [tm.out, t8]; rfl⟩
                    clear hm
                    go_wp2_with fail
                    refine HCC.out.mono ?_
                    rintro r w4 ⟨rfl, rfl⟩
                    rw [tm.out]
                    go_wp2_with fail
                    go_ret
                    rw [hv.out]
                    exact ⟨rfl, hb3⟩
                · have t8 : (y.op == 8) = false := by simp [h8]
                  have HI2 : Hid ((e.take (i + 1)).any (missB ss) = false) := by show _ = _; rw [HST.out]; unfold missB; rw [t8]; rfl
                  clear h8
                  go_wp2_with fail
                  exact ⟨⟨i + 1, by go_num, by omega, HI2, hb3⟩, by simp [intOf]; omega⟩
              · have hv : Hid (q = 0) := by
                  show _ = _
                  rw [← HQ.out]
                  refine atoms_ok.2 ⟨by omega, HND.out, HALL.out, ?_⟩
                  have := HI.out
                  rw [List.take_of_length_le (by omega)] at this
                  exact this
                go_wp2_with fail
                go_ret
                rw [hv.out]
                exact ⟨rfl, hb3⟩
set_option maxRecDepth 100000 in
set_option maxHeartbeats 1600000 in
theorem r4_FormulaFault (e : List Nd) (A : Option Addr) (c : Nat) (ss : List (List UInt8)) (An : Option Addr) (cn : Nat) (w : World) (hm : e.length ≤ 9223372036854775807) (hok : NdOk e) (hsl : NdSl w w.heap.size A e) (hs : StrSl w w.heap.size An ss) (hn : ss.length ≤ cn) (hnm : cn ≤ 9223372036854775807) :
    Calls Tryd.prog 6 #[.slice A e.length c, .slice An ss.length cn] w fun r w' => r = .returned (.int .i64 (frmErr e ss)) ∧ RowKit.Below w.heap.size w w' := by
  have HF := Lib.hid (r2_Fault e A c w hm hok hsl)
  by_cases ht : treeErr e = 0
  · have hel := (tree_len ht).1
    have HA := Lib.hid (fun W (hW : RowKit.Below w.heap.size w W) => r4_AtomsFault e A c ss An cn W (by omega) ((hsl.below hW).more hW.size) ((hs.below hW).more hW.size) hn hnm)
    have hf0 : frmErr e ss = atomsErr e ss := by unfold frmErr; rw [if_neg (by simp [ht])]
    rw [ht] at HF
    rw [hf0]
    clear ht hf0 hok hsl hs
    go_enter Tryd.func6, Tryd.ntmps6
    go_wp2_with fail
    refine HF.out.mono ?_
    rintro r w1 ⟨rfl, hb1⟩
    go_wp2_with fail
    refine (HA.out _ hb1).mono ?_
    rintro r w2 ⟨rfl, hb2⟩
    have hw2 := hb1.trans (hb2.mono hb1.size)
    go_wp2_with fail
    go_ret
    exact ⟨rfl, hw2⟩
  · have hf0 : frmErr e ss = treeErr e := by unfold frmErr; rw [if_pos ht]
    have tk : (treeErr e == 0) = false := by simp [ht]
    rw [hf0]
    clear ht hf0 hok hsl hs
    generalize treeErr e = k at HF tk ⊢
    go_enter Tryd.func6, Tryd.ntmps6
    go_wp2_with fail
    refine HF.out.mono ?_
    rintro r w1 ⟨rfl, hb1⟩
    go_wp2_with fail
    go_ret
    exact ⟨rfl, hb1⟩
end Go.Proofs.YtnhcjpmamgdeoaaDoor
namespace Go.Proofs.YtnhcjpmamgdeoaaDoor
open Go.RowKit

def vL : List (List UInt8) → List Bool → List UInt8 → Bool
  | s :: r, b :: bs, t => if t = s then b else vL r bs t
  | _, _, _ => false
def valB : List Bool → Nat
  | [] => 0
  | b :: r => (if b = true then 2 ^ r.length else 0) + valB r
theorem valB_lt : ∀ bs : List Bool, valB bs < 2 ^ bs.length
  | [] => by simp [valB]
  | b :: r => by
    have := valB_lt r
    rw [valB, List.length_cons, Nat.pow_succ]
    split <;> omega
theorem valB_app : ∀ p q : List Bool, valB (p ++ q) = valB p * 2 ^ q.length + valB q
  | [], q => by simp [valB]
  | b :: r, q => by
    rw [List.cons_append, valB, valB_app r q, valB, List.length_append, Nat.pow_add, Nat.add_mul]
    split
    · omega
    · omega
theorem valB_true : ∀ j, valB (List.replicate j true) + 1 = 2 ^ j
  | 0 => rfl
  | j + 1 => by
    have := valB_true j
    rw [List.replicate_succ, valB, List.length_replicate, Nat.pow_succ, if_pos rfl]
    omega
theorem valB_false : ∀ j, valB (List.replicate j false) = 0
  | 0 => rfl
  | j + 1 => by rw [List.replicate_succ, valB, valB_false j]; rfl
theorem vL_vB : ∀ (ss : List (List UInt8)) (bs : List Bool) (t : List UInt8), ss.length = bs.length → vL ss bs t = vB ss noneV (valB bs) t
  | [], [], t, _ => rfl
  | s :: r, b :: bs, t, h => by
    have hl : r.length = bs.length := by simpa using h
    have hlt := valB_lt bs
    rw [← hl] at hlt
    rw [vL, vB, valB, vL_vB r bs t hl, ← hl]
    cases b
    · simp only [Bool.false_eq_true, if_false, Nat.zero_add]
      rw [Nat.testBit_lt_two_pow hlt]
    · simp only [if_true]
      rw [Nat.testBit_two_pow_add_eq, Nat.testBit_lt_two_pow hlt]
      have := vB_bits r noneV (valB bs) 0 t
      rw [Nat.add_zero] at this
      rw [this]
      rfl
/-- The last j ones are put out. -/
def clr (bs : List Bool) (j : Nat) : List Bool := bs.take (bs.length - j) ++ List.replicate j false
def OnesAt (bs : List Bool) (j : Nat) : Prop := j ≤ bs.length ∧ bs.drop (bs.length - j) = List.replicate j true
theorem clr_zero (bs : List Bool) : clr bs 0 = bs := by unfold clr; simp
theorem clr_len {bs : List Bool} {j : Nat} (h : j ≤ bs.length) : (clr bs j).length = bs.length := by unfold clr; simp; omega
theorem onesAt_zero (bs : List Bool) : OnesAt bs 0 := ⟨Nat.zero_le _, by simp⟩
theorem clr_get {bs : List Bool} {j : Nat} (h : j < bs.length) : (clr bs j)[bs.length - 1 - j]? = bs[bs.length - 1 - j]? := by
  unfold clr
  rw [List.getElem?_append_left (by rw [List.length_take]; omega), List.getElem?_take, if_pos (by omega)]
theorem take_last {bs : List Bool} {j : Nat} (h : j < bs.length) {b : Bool} (hb : bs[bs.length - 1 - j]? = some b) : bs.take (bs.length - j) = bs.take (bs.length - 1 - j) ++ [b] := by
  have : bs.length - j = bs.length - 1 - j + 1 := by omega
  rw [this, List.take_add_one, hb]; rfl
theorem drop_last' {bs : List Bool} {j : Nat} (h : j < bs.length) {b : Bool} (hb : bs[bs.length - 1 - j]? = some b) : bs.drop (bs.length - (j + 1)) = b :: bs.drop (bs.length - j) := by
  obtain ⟨h1, h2⟩ := List.getElem?_eq_some_iff.1 hb
  have e1 : bs.length - (j + 1) = bs.length - 1 - j := by omega
  have e2 : bs.length - j = bs.length - 1 - j + 1 := by omega
  rw [e1, e2, List.drop_eq_getElem_cons h1, h2]
theorem onesAt_step {bs : List Bool} {j : Nat} (h : OnesAt bs j) (hj : j < bs.length) (hb : bs[bs.length - 1 - j]? = some true) : OnesAt bs (j + 1) :=
  ⟨hj, by rw [drop_last' hj hb, h.2, List.replicate_succ]⟩
theorem set_mid (p q : List Bool) (b c : Bool) (i : Nat) (h : i = p.length) : (p ++ [b] ++ q).set i c = p ++ c :: q := by
  subst h
  rw [List.append_assoc, List.set_append_right _ _ (Nat.le_refl _), Nat.sub_self]; rfl
theorem clr_set {bs : List Bool} {j : Nat} (hj : j < bs.length) {b : Bool} (hb : bs[bs.length - 1 - j]? = some b) (c : Bool) : (clr bs j).set (bs.length - 1 - j) c = bs.take (bs.length - 1 - j) ++ c :: List.replicate j false := by
  unfold clr
  rw [take_last hj hb, set_mid _ _ _ _ _ (by rw [List.length_take]; omega)]
theorem clr_step {bs : List Bool} {j : Nat} (hj : j < bs.length) (hb : bs[bs.length - 1 - j]? = some true) : (clr bs j).set (bs.length - 1 - j) false = clr bs (j + 1) := by
  rw [clr_set hj hb, clr, List.replicate_succ]
  congr 2
  omega
theorem all_ones {bs : List Bool} (h : OnesAt bs bs.length) : valB bs + 1 = 2 ^ bs.length := by
  have := h.2
  rw [Nat.sub_self, List.drop_zero] at this
  have e := valB_true bs.length
  rw [← this] at e
  exact e
theorem next_val {bs : List Bool} {j : Nat} (h : OnesAt bs j) (hj : j < bs.length) (hb : bs[bs.length - 1 - j]? = some false) :
    valB ((clr bs j).set (bs.length - 1 - j) true) = valB bs + 1 ∧ ((clr bs j).set (bs.length - 1 - j) true).length = bs.length := by
  refine ⟨?_, by rw [List.length_set, clr_len (by omega)]⟩
  rw [clr_set hj hb]
  have hd := h.2
  have e : bs = bs.take (bs.length - 1 - j) ++ false :: List.replicate j true := by
    conv => lhs; rw [← List.take_append_drop (bs.length - j) bs]
    rw [take_last hj hb, hd, List.append_assoc]; rfl
  have h1 := valB_app (bs.take (bs.length - 1 - j)) (false :: List.replicate j true)
  have h2 := valB_app (bs.take (bs.length - 1 - j)) (true :: List.replicate j false)
  rw [← e] at h1
  rw [h1, h2]
  have := valB_true j
  simp only [valB, List.length_cons, List.length_replicate, valB_false, if_true, Bool.false_eq_true, if_false]
  omega
/-- The table, row by row. -/
theorem tab_step (g : (List UInt8 → Bool) → Bool) (ss : List (List UInt8)) (bs : List Bool) (h : ss.length = bs.length) :
    (tabB g ss).take (valB bs + 1) = (tabB g ss).take (valB bs) ++ [g (vL ss bs)] := by
  have hlt := valB_lt bs
  have hg : (tabB g ss)[valB bs]? = some (g (vL ss bs)) := by
    unfold tabB
    rw [List.getElem?_map, List.getElem?_range (by rw [h]; exact hlt)]
    simp only [Option.map_some]
    congr 2
    funext t
    exact (vL_vB ss bs t h).symm
  rw [List.take_add_one, hg]; rfl
theorem tab_all (g : (List UInt8 → Bool) → Bool) (ss : List (List UInt8)) (m : Nat) (h : m = 2 ^ ss.length) : (tabB g ss).take m = tabB g ss := by
  rw [List.take_of_length_le (by rw [tabB_len]; omega)]
end Go.Proofs.YtnhcjpmamgdeoaaDoor
namespace Go.Proofs.YtnhcjpmamgdeoaaDoor
open Go.RowKit Go.Sort

theorem ex_shp {t : BTag} {xs : List Nd} (h : Ex t xs) : ∀ n ∈ xs, shapedT n = true := by
  induction h with
  | one n body fld hs _ _ ih =>
    intro m hm
    rcases List.mem_cons.1 hm with rfl | hm
    · exact hs
    · exact ih m hm
  | nil => simp
  | cons c r l m xs ys _ _ _ ih1 ih2 =>
    intro n hn
    rcases List.mem_append.1 hn with hn | hn
    · exact ih1 n hn
    · exact ih2 n hn
theorem ex_moreL : ∀ (ps : List (List Nd)) (l : ByteArray), (∀ p ∈ ps, Ex (.one false) p) → Ex (.more ps.length false l) ps.flatten
  | [], l, _ => .nil _ _
  | p :: ps, l, h => by
    have ih := ex_moreL ps l fun q hq => h q (by simp [hq])
    have hp := h p (by simp)
    cases hp with
    | one m xs _ s1 s2 s3 => exact Ex.cons ps.length false l m xs _ (by simp) (.one m xs false s1 s2 s3) (by simpa using ih)
theorem ex_mk (n : Nd) (ps : List (List Nd)) (hs : shapedT n = true) (hc : ndParts n = (ps.length : Int)) (h7 : (n.op == 7) = false) (h6 : (n.op == 6) = false) (h : ∀ p ∈ ps, Ex (.one false) p) : Ex (.one false) (n :: ps.flatten) :=
  .one n _ false hs h7 (by rw [hc, h6, Int.toNat_natCast]; exact ex_moreL ps _ h)
/-- The parts of a formula. -/
def Fm.top : Fm → Nd
  | .lit n => n
  | .var n => n
  | .neg n _ => n
  | .two n _ _ => n
  | .ite n _ _ _ => n
def Fm.subs : Fm → List Fm
  | .lit _ => []
  | .var _ => []
  | .neg _ a => [a]
  | .two _ a b => [a, b]
  | .ite _ a b c => [a, b, c]
theorem Fm.enc_top (f : Fm) : f.enc = f.top :: (f.subs.map Fm.enc).flatten := by cases f <;> simp [Fm.enc, Fm.top, Fm.subs]
theorem Fm.ok_op {f : Fm} (h : f.Ok) : (f.top.op == 7) = false ∧ (f.top.op == 6) = false ∧ ndParts f.top = (f.subs.length : Int) := by
  cases f with
  | lit n => have h : n.op = 1 := h; simp [Fm.top, Fm.subs, h, ndParts]
  | var n => have h : n.op = 8 := h; simp [Fm.top, Fm.subs, h, ndParts]
  | neg n a => have h := h.1; simp [Fm.top, Fm.subs, h, ndParts]
  | two n a b => rcases h.1 with h | h | h <;> simp [Fm.top, Fm.subs, h, ndParts]
  | ite n a b c => have h := h.1; simp [Fm.top, Fm.subs, h, ndParts]
theorem fm_top (f : Fm) (h : f.Ok) (hs : ∀ n ∈ f.enc, shapedT n = true) (hsub : ∀ g ∈ f.subs, Ex (.one false) g.enc) : Ex (.one false) f.enc := by
  obtain ⟨h7, h6, hp⟩ := Fm.ok_op h
  rw [Fm.enc_top]
  refine ex_mk _ _ (hs _ (by rw [Fm.enc_top]; simp)) (by rw [hp, List.length_map]) h7 h6 fun p hp => ?_
  obtain ⟨g, hg, rfl⟩ := List.mem_map.1 hp
  exact hsub g hg
theorem fm_exs (f : Fm) : f.Ok → (∀ n ∈ f.enc, shapedT n = true) → Ex (.one false) f.enc := by
  induction f with
  | lit n => intro h hs; exact fm_top _ h hs fun g hg => by simp [Fm.subs] at hg
  | var n => intro h hs; exact fm_top _ h hs fun g hg => by simp [Fm.subs] at hg
  | neg n a iha =>
    intro h hs
    refine fm_top _ h hs fun g hg => ?_
    simp only [Fm.subs, List.mem_singleton] at hg
    rw [hg]
    exact iha h.2 fun x hx => hs x (by simp [Fm.enc, hx])
  | two n a b iha ihb =>
    intro h hs
    refine fm_top _ h hs fun g hg => ?_
    simp only [Fm.subs, List.mem_cons, List.not_mem_nil, or_false] at hg
    rcases hg with hg | hg <;> rw [hg]
    · exact iha h.2.1 fun x hx => hs x (by simp [Fm.enc, hx])
    · exact ihb h.2.2 fun x hx => hs x (by simp [Fm.enc, hx])
  | ite n a b c iha ihb ihc =>
    intro h hs
    refine fm_top _ h hs fun g hg => ?_
    simp only [Fm.subs, List.mem_cons, List.not_mem_nil, or_false] at hg
    rcases hg with hg | hg | hg <;> rw [hg]
    · exact iha h.2.1 fun x hx => hs x (by simp [Fm.enc, hx])
    · exact ihb h.2.2.1 fun x hx => hs x (by simp [Fm.enc, hx])
    · exact ihc h.2.2.2 fun x hx => hs x (by simp [Fm.enc, hx])
theorem fm_at {f : Fm} (h : f.Ok) (hs : ∀ n ∈ f.enc, shapedT n = true) {e pre post : List Nd} {i : Nat} (he : e = pre ++ f.enc ++ post) (hi : pre.length = i) : NdAtE e i f.top (f.subs.map Fm.enc) := by
  obtain ⟨h7, h6, hp⟩ := Fm.ok_op h
  refine ⟨⟨pre, post, by rw [he, Fm.enc_top], hi⟩, fun p hpm => ?_, by rw [hp, List.length_map]⟩
  rw [h6]
  obtain ⟨g, hg, rfl⟩ := List.mem_map.1 hpm
  have hgs : ∀ n ∈ g.enc, shapedT n = true := fun n hn => hs n (by rw [Fm.enc_top]; exact List.mem_cons_of_mem _ (List.mem_flatten.2 ⟨_, List.mem_map.2 ⟨g, hg, rfl⟩, hn⟩))
  refine fm_exs g ?_ hgs
  cases f with
  | lit n => simp [Fm.subs] at hg
  | var n => simp [Fm.subs] at hg
  | neg n a => simp only [Fm.subs, List.mem_singleton] at hg; subst hg; exact h.2
  | two n a b =>
    simp only [Fm.subs, List.mem_cons, List.not_mem_nil, or_false] at hg
    rcases hg with rfl | rfl
    · exact h.2.1
    · exact h.2.2
  | ite n a b c =>
    simp only [Fm.subs, List.mem_cons, List.not_mem_nil, or_false] at hg
    rcases hg with rfl | rfl | rfl
    · exact h.2.1
    · exact h.2.2.1
    · exact h.2.2.2
/-- What stays as it is while the reference reads a formula. -/
structure IsCtx (e : List Nd) (ss : List (List UInt8)) (bs : List Bool) (A An Ab : Option Addr) (cb : Nat) (w : World) : Prop where
  len : e.length ≤ 200
  ok : NdOk e
  shp : ∀ n ∈ e, shapedT n = true
  sl : NdSl w w.heap.size A e
  st : StrSl w w.heap.size An ss
  bo : BoSl w w.heap.size Ab bs
  eq : ss.length = bs.length
  six : ss.length ≤ 6
  cap : bs.length ≤ cb
theorem IsCtx.later {e : List Nd} {ss : List (List UInt8)} {bs : List Bool} {A An Ab : Option Addr} {cb : Nat} {w w' : World} (h : IsCtx e ss bs A An Ab cb w) (hb : RowKit.Below w.heap.size w w') : IsCtx e ss bs A An Ab cb w' :=
  ⟨h.len, h.ok, h.shp, (h.sl.below hb).more hb.size, (h.st.below hb).more hb.size, (h.bo.below hb).more hb.size, h.eq, h.six, h.cap⟩
def IsOk (f : Fm) : Prop := ∀ (e pre post : List Nd) (i : Nat) (ss : List (List UInt8)) (bs : List Bool) (A An Ab : Option Addr) (c cn cb : Nat) (w : World), IsCtx e ss bs A An Ab cb w → e = pre ++ f.enc ++ post → pre.length = i →
    Calls Tryd.prog 20 #[.slice A e.length c, .int .i64 i, .slice An ss.length cn, .slice Ab bs.length cb] w fun r w' => r = .returned (.bool (f.ev (vL ss bs))) ∧ RowKit.Below w.heap.size w w'
theorem vL_at {ss : List (List UInt8)} {t : List UInt8} : ∀ {bs : List Bool} {k : Nat}, ss.length = bs.length → ss[k]? = some t → t ∉ ss.take k → ∀ {b}, bs[k]? = some b → vL ss bs t = b := by
  induction ss with
  | nil => intro bs k _ h; simp at h
  | cons s r ih =>
    intro bs k hl hk hn b hb
    match bs, hl with
    | b0 :: bs, hl =>
      cases k with
      | zero => simp at hk hb; rw [vL, if_pos hk.symm, hb]
      | succ k =>
        rw [List.take_succ_cons, List.mem_cons, not_or] at hn
        rw [vL, if_neg hn.1]
        exact ih (by simpa using hl) (by simpa using hk) hn.2 (by simpa using hb)
theorem vL_none : ∀ {ss : List (List UInt8)} {bs : List Bool} {t : List UInt8}, t ∉ ss → vL ss bs t = false
  | [], bs, t, _ => by cases bs <;> rfl
  | s :: r, [], t, _ => rfl
  | s :: r, b :: bs, t, h => by
    rw [List.mem_cons, not_or] at h
    rw [vL, if_neg h.1]; exact vL_none h.2
theorem run_at_int (b o n c k : Nat) (hk : k < n) (W : World) : (Instr.indexAt 52 (.slice (some ⟨b, o, none⟩) n c) (.int .i64 (k : Int))).run Tryd.prog W = .ok (.pointer (some ⟨b, o + k, none⟩)) W := by
  go_simp
set_option maxRecDepth 100000 in
set_option maxHeartbeats 3200000 in
theorem is_lit (n : Nd) (h1 : n.op = 1) : IsOk (.lit n) := by
  intro e pre post i ss bs A An Ab c cn cb w hX he hpi
  have hok : (Fm.lit n).Ok := h1
  have hshp : ∀ x ∈ (Fm.lit n).enc, shapedT x = true := fun x hx => hX.shp x (by rw [he]; simp [hx])
  have hA := fm_at hok hshp he hpi
  have hx := hA.get
  have hil : i < e.length := (List.getElem?_eq_some_iff.1 hx).1
  have hlen := hX.len
  have hseq := hX.eq
  have hsix := hX.six
  obtain ⟨b, of, rfl, hb, hcs⟩ := hX.sl.at_ hil
  obtain ⟨d0, d1, d2, d3⟩ := hcs i _ hx
  simp only [Fm.top] at d0 d1 d2 d3
  rw [h1] at d0
  have dd : decide (e.length ≤ i) = false := by simp; omega
  have HV : Hid ((Fm.lit n).ev (vL ss bs) = (n.n == 1)) := rfl
  rw [HV.out]
  clear hX he hA hx hcs hok hshp h1 HV
  go_enter Tryd.func20, Tryd.ntmps20
  go_wp2_with fail
  go_ret
  exact ⟨rfl, by (repeat (first | assumption | exact Below.refl _ _ | apply Below.drew | apply below_drewN | (refine Below.alloc ?_ (by first | exact Nat.le_refl _ | omega | (simp; done) | (simp; omega)) _)))⟩
set_option maxRecDepth 100000 in
set_option maxHeartbeats 6400000 in
theorem is_var (n : Nd) (h1 : n.op = 8) : IsOk (.var n) := by
  intro e pre post i ss bs A An Ab c cn cb w hX he hpi
  have hok : (Fm.var n).Ok := h1
  have hshp : ∀ x ∈ (Fm.var n).enc, shapedT x = true := fun x hx => hX.shp x (by rw [he]; simp [hx])
  have hA := fm_at hok hshp he hpi
  have hx := hA.get
  have hil : i < e.length := (List.getElem?_eq_some_iff.1 hx).1
  have hlen := hX.len
  have hseq := hX.eq
  have hsix := hX.six
  obtain ⟨b, of, rfl, hb, hcs⟩ := hX.sl.at_ hil
  obtain ⟨d0, d1, d2, d3⟩ := hcs i _ hx
  simp only [Fm.top] at d0 d1 d2 d3
  rw [h1] at d0
  have dd : decide (e.length ≤ i) = false := by simp; omega
  obtain ⟨q, hq⟩ : ∃ q, vL ss bs n.s.toList = q := ⟨_, rfl⟩
  have HV : Hid ((Fm.var n).ev (vL ss bs) = q) := hq
  rw [HV.out]
  have HQ := Lib.hid hq
  have HX := Lib.hid hX
  have HSE := Lib.hid hseq
  have hbl : bs.length ≤ 6 := by omega
  have hnm : bs.length ≤ cb := hX.cap
  have hle : ss.length ≤ bs.length := by omega
  have hlg : bs.length ≤ ss.length := by omega
  obtain ⟨w0, hw0e⟩ : ∃ w0, w.alloc (.cells #[.int .i64 8, .int .i64 n.n, .string n.s, .string n.t] 47) = w0 := ⟨_, rfl⟩
  have HW0 := Lib.hid hw0e
  have hw0 : RowKit.Below w.heap.size w w0 := by rw [← hw0e]; (repeat (first | assumption | exact Below.refl _ _ | apply Below.drew | apply below_drewN | (refine Below.alloc ?_ (by first | exact Nat.le_refl _ | omega | (simp; done) | (simp; omega)) _)))
  have B0 : Blk w0 w.heap.size 47 #[.int .i64 8, .int .i64 n.n, .string n.s, .string n.t] := by rw [← hw0e]; exact Blk.new w _ _
  clear hX he hA hx hcs hok hshp h1 HV hq hseq hw0e
  go_enter Tryd.func20, Tryd.ntmps20
  go_wp2_with fail
  rw [HW0.out]
  go_loopw [10] (fun ii wr => ∃ k : Nat, ii = .int .i64 k ∧ k ≤ ss.length ∧ Hid (n.s.toList ∉ ss.take k) ∧ Hid (Blk wr w.heap.size 47 #[.int .i64 8, .int .i64 n.n, .string n.s, .string n.t]) ∧ RowKit.Below w.heap.size w wr) (fun ii _ => ss.length - (intOf ii).toNat)
  case atStart => exact ⟨0, rfl, by omega, by simp [Hid], B0, hw0⟩
  case round =>
    obtain ⟨k, rfl, hk, HK, HB, hbr⟩ := hrel
    have hzr := hbr.size
    have HXr := Lib.hid (HX.out.later hbr)
    by_cases hlt : k < ss.length
    · obtain ⟨x, hx⟩ : ∃ x, ss[k]? = some x := ⟨_, List.getElem?_eq_getElem hlt⟩
      obtain ⟨v, hv⟩ : ∃ v, bs[k]? = some v := ⟨_, List.getElem?_eq_getElem (by omega)⟩
      obtain ⟨b1, o1, rfl, hb1, hcs1⟩ := str_at HXr.out.st hx
      obtain ⟨sx, c0, hsx⟩ := hcs1 k x hx
      obtain ⟨b2, o2, rfl, hb2, c1⟩ := boSl_at HXr.out.bo hv
      have e2 := HB.out.cell 2
      have hwl := HB.out.lt
      have HXX := Lib.hid hx
      have HVV := Lib.hid hv
      have HSX := Lib.hid hsx
      have hkl : (k : Int) < ss.length := by omega
      have hkb : k < bs.length := by omega
      clear hx hcs1 hsx hv
      by_cases hm : sx.toList = n.s.toList
      · have tm : (sx.toList == n.s.toList) = true := by simp [hm]
        have hv : Hid (q = v) := by
          show _ = _
          rw [← HQ.out]
          exact vL_at HSE.out (by rw [HXX.out, ← HSX.out, hm]) HK.out HVV.out
        clear hm
        go_wp2_with fail
        go_quiet (fail)
        go_wp2_with fail
        go_ret
        rw [hv.out]
        exact ⟨rfl, by (repeat (first | assumption | exact Below.refl _ _ | apply Below.drew | apply below_drewN | (refine Below.alloc ?_ (by first | exact Nat.le_refl _ | omega | (simp; done) | (simp; omega)) _)))⟩
      · have tm : (sx.toList == n.s.toList) = false := by simp [hm]
        have HK2 : Hid (n.s.toList ∉ ss.take (k + 1)) := by
          show _ ∉ _
          rw [List.take_add_one, HXX.out]
          simp only [Option.toList, List.mem_append, List.mem_singleton, not_or]
          exact ⟨HK.out, fun h => hm (by rw [HSX.out, h])⟩
        clear hm
        go_wp2_with fail
        go_quiet (fail)
        go_wp2_with fail
        exact ⟨⟨k + 1, by go_num, by omega, HK2, HB.out.drewN _, by (repeat (first | assumption | exact Below.refl _ _ | apply Below.drew | apply below_drewN | (refine Below.alloc ?_ (by first | exact Nat.le_refl _ | omega | (simp; done) | (simp; omega)) _)))⟩, by simp [intOf]; omega⟩
    · have hv : Hid (q = false) := by
        show _ = _
        have := HK.out
        rw [List.take_of_length_le (by omega)] at this
        rw [← HQ.out]
        exact vL_none this
      go_wp2_with fail
      go_ret
      rw [hv.out]
      exact ⟨rfl, by (repeat (first | assumption | exact Below.refl _ _ | apply Below.drew | apply below_drewN | (refine Below.alloc ?_ (by first | exact Nat.le_refl _ | omega | (simp; done) | (simp; omega)) _)))⟩
set_option maxRecDepth 100000 in
set_option maxHeartbeats 12800000 in
theorem is_two11 (n : Nd) (a d : Fm) (h1 : n.op = 11) (hsub : a.Ok ∧ d.Ok) (iha : IsOk a) (ihd : IsOk d) : IsOk (Fm.two n a d) := by
  intro e pre post i ss bs A An Ab c cn cb w hX he hpi
  have hok : (Fm.two n a d).Ok := ⟨by omega, hsub⟩
  have hshp : ∀ x ∈ (Fm.two n a d).enc, shapedT x = true := fun x hx => hX.shp x (by rw [he]; simp only [List.mem_append]; exact .inl (.inr hx))
  have hA := fm_at hok hshp he hpi
  have hx := hA.get
  have hil : i < e.length := (List.getElem?_eq_some_iff.1 hx).1
  have hlen := hX.len
  have hseq := hX.eq
  have hsix := hX.six
  obtain ⟨b, of, rfl, hb, hcs⟩ := hX.sl.at_ hil
  obtain ⟨d0, d1, d2, d3⟩ := hcs i _ hx
  simp only [Fm.top] at d0 d1 d2 d3
  rw [h1] at d0
  have dd : decide (e.length ≤ i) = false := by simp; omega
  obtain ⟨va, hva⟩ : ∃ v, a.ev (vL ss bs) = v := ⟨_, rfl⟩
  obtain ⟨j0, hj0⟩ : ∃ j : Nat, j = i + 1 := ⟨_, rfl⟩
  have HIa : Hid (∀ W, RowKit.Below w.heap.size w W → Calls Tryd.prog 20 #[.slice (some ⟨b, of, none⟩) e.length c, .int .i64 (j0 : Int), .slice An ss.length cn, .slice Ab bs.length cb] W fun r w' => r = .returned (.bool va) ∧ RowKit.Below W.heap.size W w') := fun W hW => by
    rw [← hva]
    exact iha e (pre ++ [n]) (d.enc ++ post) j0 ss bs _ An Ab c cn cb W (hX.later hW) (by rw [he]; simp [Fm.enc]) (by simp [hj0, hpi]; try omega)
  obtain ⟨vd, hvd⟩ : ∃ v, d.ev (vL ss bs) = v := ⟨_, rfl⟩
  obtain ⟨j1, hj1⟩ : ∃ j : Nat, j = i + 1 + a.enc.length := ⟨_, rfl⟩
  have HId : Hid (∀ W, RowKit.Below w.heap.size w W → Calls Tryd.prog 20 #[.slice (some ⟨b, of, none⟩) e.length c, .int .i64 (j1 : Int), .slice An ss.length cn, .slice Ab bs.length cb] W fun r w' => r = .returned (.bool vd) ∧ RowKit.Below W.heap.size W w') := fun W hW => by
    rw [← hvd]
    exact ihd e (pre ++ [n] ++ a.enc) (post) j1 ss bs _ An Ab c cn cb W (hX.later hW) (by rw [he]; simp [Fm.enc]) (by simp [hj1, hpi]; try omega)
  have HP := Lib.hid (fun W (hW : RowKit.Below w.heap.size w W) => r3_PartsOf e i n _ (some ⟨b, of, none⟩) c W hA hX.len hX.ok ((hX.sl.below hW).more hW.size))
  have HST : ∃ T, startsGo (n.op == 6) (i + 1) ((Fm.two n a d).subs.map Fm.enc) = [j0, j1] ++ T := by
    have h6 := (Fm.ok_op hok).2.1
    simp only [Fm.top] at h6
    rw [h6]
    simp only [Fm.subs, List.map_cons, List.map_nil, startsGo, Bool.false_eq_true, if_false, hj0, hj1]
    exact ⟨_, rfl⟩
  obtain ⟨T, hT⟩ := HST
  have HTL : Hid (([j0, j1] ++ T).length = 3) := by show _ = _; rw [← hT, starts_len]; rfl
  rw [hT] at HP
  have HS0 : Hid (([j0, j1] ++ T)[0]? = some j0) := rfl
  have HS1 : Hid (([j0, j1] ++ T)[1]? = some j1) := rfl
  have HV : Hid ((Fm.two n a d).ev (vL ss bs) = (va && vd)) := by
    show _ = _
    simp only [Fm.ev, hva, hvd, twoB, h1]
    try rfl
  rw [HV.out]
  clear hT
  generalize [j0, j1] ++ T = S at HP HTL HS0 HS1
  obtain ⟨w0, hw0e⟩ : ∃ w0, w.alloc (.cells #[.int .i64 11, .int .i64 n.n, .string n.s, .string n.t] 47) = w0 := ⟨_, rfl⟩
  have HW0 := Lib.hid hw0e
  have hw0 : RowKit.Below w.heap.size w w0 := by rw [← hw0e]; (repeat (first | assumption | exact Below.refl _ _ | apply Below.drew | apply below_drewN | (refine Below.alloc ?_ (by first | exact Nat.le_refl _ | omega | (simp; done) | (simp; omega)) _)))
  have B0 : Blk w0 w.heap.size 47 #[.int .i64 11, .int .i64 n.n, .string n.s, .string n.t] := by rw [← hw0e]; exact Blk.new w _ _
  clear hX he hA hx hcs hok hshp h1 HV hw0e hsub hpi hva hj0 iha hvd hj1 ihd
  clear hlen hseq hsix
  go_enter Tryd.func20, Tryd.ntmps20
  go_wp2_with fail
  rw [HW0.out]
  refine (HP.out _ hw0).mono ?_
  rintro r w1 ⟨PA, pc, rfl, hp1, hp2, hp3, hb1⟩
  rw [HTL.out] at hp1 ⊢
  have hw1 : RowKit.Below w.heap.size w w1 := hw0.trans (hb1.mono hw0.size)
  have B1 := Lib.hid (B0.below hb1 B0.lt)
  obtain ⟨pb, po, rfl, hpb, q0⟩ := inSl_at hp3 HS0.out
  have HQ1 : Hid (∀ W, RowKit.Below w1.heap.size w1 W → ∀ k j, S[k]? = some j → W.cell? ⟨pb, po + k, none⟩ = some (.int .i64 ((j : Nat) : Int))) := fun W hW k j hk => by
    obtain ⟨b', o', h1, _, h2⟩ := inSl_at hp3 hk
    injection h1 with h1
    injection h1 with h1 h3
    subst h1 h3
    exact (hW.cell (p := ⟨pb, po + k, none⟩) hpb).trans h2
  rw [Nat.add_zero] at q0
  have u0 := B1.out.cell 0
  have ul := B1.out.lt
  clear hp3 hb1 B0
  go_wp2_with fail
  refine (HIa.out _ hw1).mono ?_
  rintro r w2 ⟨rfl, hb2⟩
  have hw2 : RowKit.Below w.heap.size w w2 := hw1.trans (hb2.mono hw1.size)
  have h1w2 : RowKit.Below w1.heap.size w1 w2 := hb2
  have B2 := Lib.hid (B1.out.below hb2 B1.out.lt)
  clear u0 ul hb2
  have u0 := B2.out.cell 0
  have ul := B2.out.lt
  have q1 := HQ1.out _ h1w2 1 _ HS1.out
  go_wp2_with fail
  refine (HId.out _ hw2).mono ?_
  rintro r w3 ⟨rfl, hb3⟩
  have hw3 : RowKit.Below w.heap.size w w3 := hw2.trans (hb3.mono hw2.size)
  have h1w3 : RowKit.Below w1.heap.size w1 w3 := h1w2.trans (hb3.mono h1w2.size)
  have B3 := Lib.hid (B2.out.below hb3 B2.out.lt)
  clear u0 ul hb3
  have u0 := B3.out.cell 0
  have ul := B3.out.lt
  cases va <;> cases vd
  all_goals
    go_wp2_with fail
    go_ret
    exact ⟨rfl, hw3⟩
set_option maxRecDepth 100000 in
set_option maxHeartbeats 12800000 in
theorem is_two12 (n : Nd) (a d : Fm) (h1 : n.op = 12) (hsub : a.Ok ∧ d.Ok) (iha : IsOk a) (ihd : IsOk d) : IsOk (Fm.two n a d) := by
  intro e pre post i ss bs A An Ab c cn cb w hX he hpi
  have hok : (Fm.two n a d).Ok := ⟨by omega, hsub⟩
  have hshp : ∀ x ∈ (Fm.two n a d).enc, shapedT x = true := fun x hx => hX.shp x (by rw [he]; simp only [List.mem_append]; exact .inl (.inr hx))
  have hA := fm_at hok hshp he hpi
  have hx := hA.get
  have hil : i < e.length := (List.getElem?_eq_some_iff.1 hx).1
  have hlen := hX.len
  have hseq := hX.eq
  have hsix := hX.six
  obtain ⟨b, of, rfl, hb, hcs⟩ := hX.sl.at_ hil
  obtain ⟨d0, d1, d2, d3⟩ := hcs i _ hx
  simp only [Fm.top] at d0 d1 d2 d3
  rw [h1] at d0
  have dd : decide (e.length ≤ i) = false := by simp; omega
  obtain ⟨va, hva⟩ : ∃ v, a.ev (vL ss bs) = v := ⟨_, rfl⟩
  obtain ⟨j0, hj0⟩ : ∃ j : Nat, j = i + 1 := ⟨_, rfl⟩
  have HIa : Hid (∀ W, RowKit.Below w.heap.size w W → Calls Tryd.prog 20 #[.slice (some ⟨b, of, none⟩) e.length c, .int .i64 (j0 : Int), .slice An ss.length cn, .slice Ab bs.length cb] W fun r w' => r = .returned (.bool va) ∧ RowKit.Below W.heap.size W w') := fun W hW => by
    rw [← hva]
    exact iha e (pre ++ [n]) (d.enc ++ post) j0 ss bs _ An Ab c cn cb W (hX.later hW) (by rw [he]; simp [Fm.enc]) (by simp [hj0, hpi]; try omega)
  obtain ⟨vd, hvd⟩ : ∃ v, d.ev (vL ss bs) = v := ⟨_, rfl⟩
  obtain ⟨j1, hj1⟩ : ∃ j : Nat, j = i + 1 + a.enc.length := ⟨_, rfl⟩
  have HId : Hid (∀ W, RowKit.Below w.heap.size w W → Calls Tryd.prog 20 #[.slice (some ⟨b, of, none⟩) e.length c, .int .i64 (j1 : Int), .slice An ss.length cn, .slice Ab bs.length cb] W fun r w' => r = .returned (.bool vd) ∧ RowKit.Below W.heap.size W w') := fun W hW => by
    rw [← hvd]
    exact ihd e (pre ++ [n] ++ a.enc) (post) j1 ss bs _ An Ab c cn cb W (hX.later hW) (by rw [he]; simp [Fm.enc]) (by simp [hj1, hpi]; try omega)
  have HP := Lib.hid (fun W (hW : RowKit.Below w.heap.size w W) => r3_PartsOf e i n _ (some ⟨b, of, none⟩) c W hA hX.len hX.ok ((hX.sl.below hW).more hW.size))
  have HST : ∃ T, startsGo (n.op == 6) (i + 1) ((Fm.two n a d).subs.map Fm.enc) = [j0, j1] ++ T := by
    have h6 := (Fm.ok_op hok).2.1
    simp only [Fm.top] at h6
    rw [h6]
    simp only [Fm.subs, List.map_cons, List.map_nil, startsGo, Bool.false_eq_true, if_false, hj0, hj1]
    exact ⟨_, rfl⟩
  obtain ⟨T, hT⟩ := HST
  have HTL : Hid (([j0, j1] ++ T).length = 3) := by show _ = _; rw [← hT, starts_len]; rfl
  rw [hT] at HP
  have HS0 : Hid (([j0, j1] ++ T)[0]? = some j0) := rfl
  have HS1 : Hid (([j0, j1] ++ T)[1]? = some j1) := rfl
  have HV : Hid ((Fm.two n a d).ev (vL ss bs) = (va || vd)) := by
    show _ = _
    simp only [Fm.ev, hva, hvd, twoB, h1]
    try rfl
  rw [HV.out]
  clear hT
  generalize [j0, j1] ++ T = S at HP HTL HS0 HS1
  obtain ⟨w0, hw0e⟩ : ∃ w0, w.alloc (.cells #[.int .i64 12, .int .i64 n.n, .string n.s, .string n.t] 47) = w0 := ⟨_, rfl⟩
  have HW0 := Lib.hid hw0e
  have hw0 : RowKit.Below w.heap.size w w0 := by rw [← hw0e]; (repeat (first | assumption | exact Below.refl _ _ | apply Below.drew | apply below_drewN | (refine Below.alloc ?_ (by first | exact Nat.le_refl _ | omega | (simp; done) | (simp; omega)) _)))
  have B0 : Blk w0 w.heap.size 47 #[.int .i64 12, .int .i64 n.n, .string n.s, .string n.t] := by rw [← hw0e]; exact Blk.new w _ _
  clear hX he hA hx hcs hok hshp h1 HV hw0e hsub hpi hva hj0 iha hvd hj1 ihd
  clear hlen hseq hsix
  go_enter Tryd.func20, Tryd.ntmps20
  go_wp2_with fail
  rw [HW0.out]
  refine (HP.out _ hw0).mono ?_
  rintro r w1 ⟨PA, pc, rfl, hp1, hp2, hp3, hb1⟩
  rw [HTL.out] at hp1 ⊢
  have hw1 : RowKit.Below w.heap.size w w1 := hw0.trans (hb1.mono hw0.size)
  have B1 := Lib.hid (B0.below hb1 B0.lt)
  obtain ⟨pb, po, rfl, hpb, q0⟩ := inSl_at hp3 HS0.out
  have HQ1 : Hid (∀ W, RowKit.Below w1.heap.size w1 W → ∀ k j, S[k]? = some j → W.cell? ⟨pb, po + k, none⟩ = some (.int .i64 ((j : Nat) : Int))) := fun W hW k j hk => by
    obtain ⟨b', o', h1, _, h2⟩ := inSl_at hp3 hk
    injection h1 with h1
    injection h1 with h1 h3
    subst h1 h3
    exact (hW.cell (p := ⟨pb, po + k, none⟩) hpb).trans h2
  rw [Nat.add_zero] at q0
  have u0 := B1.out.cell 0
  have ul := B1.out.lt
  clear hp3 hb1 B0
  go_wp2_with fail
  refine (HIa.out _ hw1).mono ?_
  rintro r w2 ⟨rfl, hb2⟩
  have hw2 : RowKit.Below w.heap.size w w2 := hw1.trans (hb2.mono hw1.size)
  have h1w2 : RowKit.Below w1.heap.size w1 w2 := hb2
  have B2 := Lib.hid (B1.out.below hb2 B1.out.lt)
  clear u0 ul hb2
  have u0 := B2.out.cell 0
  have ul := B2.out.lt
  have q1 := HQ1.out _ h1w2 1 _ HS1.out
  go_wp2_with fail
  refine (HId.out _ hw2).mono ?_
  rintro r w3 ⟨rfl, hb3⟩
  have hw3 : RowKit.Below w.heap.size w w3 := hw2.trans (hb3.mono hw2.size)
  have h1w3 : RowKit.Below w1.heap.size w1 w3 := h1w2.trans (hb3.mono h1w2.size)
  have B3 := Lib.hid (B2.out.below hb3 B2.out.lt)
  clear u0 ul hb3
  have u0 := B3.out.cell 0
  have ul := B3.out.lt
  cases va <;> cases vd
  all_goals
    go_wp2_with fail
    go_ret
    exact ⟨rfl, hw3⟩
set_option maxRecDepth 100000 in
set_option maxHeartbeats 12800000 in
theorem is_two14 (n : Nd) (a d : Fm) (h1 : n.op = 14) (hsub : a.Ok ∧ d.Ok) (iha : IsOk a) (ihd : IsOk d) : IsOk (Fm.two n a d) := by
  intro e pre post i ss bs A An Ab c cn cb w hX he hpi
  have hok : (Fm.two n a d).Ok := ⟨by omega, hsub⟩
  have hshp : ∀ x ∈ (Fm.two n a d).enc, shapedT x = true := fun x hx => hX.shp x (by rw [he]; simp only [List.mem_append]; exact .inl (.inr hx))
  have hA := fm_at hok hshp he hpi
  have hx := hA.get
  have hil : i < e.length := (List.getElem?_eq_some_iff.1 hx).1
  have hlen := hX.len
  have hseq := hX.eq
  have hsix := hX.six
  obtain ⟨b, of, rfl, hb, hcs⟩ := hX.sl.at_ hil
  obtain ⟨d0, d1, d2, d3⟩ := hcs i _ hx
  simp only [Fm.top] at d0 d1 d2 d3
  rw [h1] at d0
  have dd : decide (e.length ≤ i) = false := by simp; omega
  obtain ⟨va, hva⟩ : ∃ v, a.ev (vL ss bs) = v := ⟨_, rfl⟩
  obtain ⟨j0, hj0⟩ : ∃ j : Nat, j = i + 1 := ⟨_, rfl⟩
  have HIa : Hid (∀ W, RowKit.Below w.heap.size w W → Calls Tryd.prog 20 #[.slice (some ⟨b, of, none⟩) e.length c, .int .i64 (j0 : Int), .slice An ss.length cn, .slice Ab bs.length cb] W fun r w' => r = .returned (.bool va) ∧ RowKit.Below W.heap.size W w') := fun W hW => by
    rw [← hva]
    exact iha e (pre ++ [n]) (d.enc ++ post) j0 ss bs _ An Ab c cn cb W (hX.later hW) (by rw [he]; simp [Fm.enc]) (by simp [hj0, hpi]; try omega)
  obtain ⟨vd, hvd⟩ : ∃ v, d.ev (vL ss bs) = v := ⟨_, rfl⟩
  obtain ⟨j1, hj1⟩ : ∃ j : Nat, j = i + 1 + a.enc.length := ⟨_, rfl⟩
  have HId : Hid (∀ W, RowKit.Below w.heap.size w W → Calls Tryd.prog 20 #[.slice (some ⟨b, of, none⟩) e.length c, .int .i64 (j1 : Int), .slice An ss.length cn, .slice Ab bs.length cb] W fun r w' => r = .returned (.bool vd) ∧ RowKit.Below W.heap.size W w') := fun W hW => by
    rw [← hvd]
    exact ihd e (pre ++ [n] ++ a.enc) (post) j1 ss bs _ An Ab c cn cb W (hX.later hW) (by rw [he]; simp [Fm.enc]) (by simp [hj1, hpi]; try omega)
  have HP := Lib.hid (fun W (hW : RowKit.Below w.heap.size w W) => r3_PartsOf e i n _ (some ⟨b, of, none⟩) c W hA hX.len hX.ok ((hX.sl.below hW).more hW.size))
  have HST : ∃ T, startsGo (n.op == 6) (i + 1) ((Fm.two n a d).subs.map Fm.enc) = [j0, j1] ++ T := by
    have h6 := (Fm.ok_op hok).2.1
    simp only [Fm.top] at h6
    rw [h6]
    simp only [Fm.subs, List.map_cons, List.map_nil, startsGo, Bool.false_eq_true, if_false, hj0, hj1]
    exact ⟨_, rfl⟩
  obtain ⟨T, hT⟩ := HST
  have HTL : Hid (([j0, j1] ++ T).length = 3) := by show _ = _; rw [← hT, starts_len]; rfl
  rw [hT] at HP
  have HS0 : Hid (([j0, j1] ++ T)[0]? = some j0) := rfl
  have HS1 : Hid (([j0, j1] ++ T)[1]? = some j1) := rfl
  have HV : Hid ((Fm.two n a d).ev (vL ss bs) = (va == vd)) := by
    show _ = _
    simp only [Fm.ev, hva, hvd, twoB, h1]
    try rfl
  rw [HV.out]
  clear hT
  generalize [j0, j1] ++ T = S at HP HTL HS0 HS1
  obtain ⟨w0, hw0e⟩ : ∃ w0, w.alloc (.cells #[.int .i64 14, .int .i64 n.n, .string n.s, .string n.t] 47) = w0 := ⟨_, rfl⟩
  have HW0 := Lib.hid hw0e
  have hw0 : RowKit.Below w.heap.size w w0 := by rw [← hw0e]; (repeat (first | assumption | exact Below.refl _ _ | apply Below.drew | apply below_drewN | (refine Below.alloc ?_ (by first | exact Nat.le_refl _ | omega | (simp; done) | (simp; omega)) _)))
  have B0 : Blk w0 w.heap.size 47 #[.int .i64 14, .int .i64 n.n, .string n.s, .string n.t] := by rw [← hw0e]; exact Blk.new w _ _
  clear hX he hA hx hcs hok hshp h1 HV hw0e hsub hpi hva hj0 iha hvd hj1 ihd
  clear hlen hseq hsix
  go_enter Tryd.func20, Tryd.ntmps20
  go_wp2_with fail
  rw [HW0.out]
  refine (HP.out _ hw0).mono ?_
  rintro r w1 ⟨PA, pc, rfl, hp1, hp2, hp3, hb1⟩
  rw [HTL.out] at hp1 ⊢
  have hw1 : RowKit.Below w.heap.size w w1 := hw0.trans (hb1.mono hw0.size)
  have B1 := Lib.hid (B0.below hb1 B0.lt)
  obtain ⟨pb, po, rfl, hpb, q0⟩ := inSl_at hp3 HS0.out
  have HQ1 : Hid (∀ W, RowKit.Below w1.heap.size w1 W → ∀ k j, S[k]? = some j → W.cell? ⟨pb, po + k, none⟩ = some (.int .i64 ((j : Nat) : Int))) := fun W hW k j hk => by
    obtain ⟨b', o', h1, _, h2⟩ := inSl_at hp3 hk
    injection h1 with h1
    injection h1 with h1 h3
    subst h1 h3
    exact (hW.cell (p := ⟨pb, po + k, none⟩) hpb).trans h2
  rw [Nat.add_zero] at q0
  have u0 := B1.out.cell 0
  have ul := B1.out.lt
  clear hp3 hb1 B0
  go_wp2_with fail
  refine (HIa.out _ hw1).mono ?_
  rintro r w2 ⟨rfl, hb2⟩
  have hw2 : RowKit.Below w.heap.size w w2 := hw1.trans (hb2.mono hw1.size)
  have h1w2 : RowKit.Below w1.heap.size w1 w2 := hb2
  have B2 := Lib.hid (B1.out.below hb2 B1.out.lt)
  clear u0 ul hb2
  have u0 := B2.out.cell 0
  have ul := B2.out.lt
  have q1 := HQ1.out _ h1w2 1 _ HS1.out
  go_wp2_with fail
  refine (HId.out _ hw2).mono ?_
  rintro r w3 ⟨rfl, hb3⟩
  have hw3 : RowKit.Below w.heap.size w w3 := hw2.trans (hb3.mono hw2.size)
  have h1w3 : RowKit.Below w1.heap.size w1 w3 := h1w2.trans (hb3.mono h1w2.size)
  have B3 := Lib.hid (B2.out.below hb3 B2.out.lt)
  clear u0 ul hb3
  have u0 := B3.out.cell 0
  have ul := B3.out.lt
  cases va <;> cases vd
  all_goals
    go_wp2_with fail
    go_ret
    exact ⟨rfl, hw3⟩
set_option maxRecDepth 100000 in
set_option maxHeartbeats 12800000 in
theorem is_neg (n : Nd) (a : Fm) (h1 : n.op = 9) (hsub : a.Ok) (iha : IsOk a) : IsOk (Fm.neg n a) := by
  intro e pre post i ss bs A An Ab c cn cb w hX he hpi
  have hok : (Fm.neg n a).Ok := ⟨h1, hsub⟩
  have hshp : ∀ x ∈ (Fm.neg n a).enc, shapedT x = true := fun x hx => hX.shp x (by rw [he]; simp only [List.mem_append]; exact .inl (.inr hx))
  have hA := fm_at hok hshp he hpi
  have hx := hA.get
  have hil : i < e.length := (List.getElem?_eq_some_iff.1 hx).1
  have hlen := hX.len
  have hseq := hX.eq
  have hsix := hX.six
  obtain ⟨b, of, rfl, hb, hcs⟩ := hX.sl.at_ hil
  obtain ⟨d0, d1, d2, d3⟩ := hcs i _ hx
  simp only [Fm.top] at d0 d1 d2 d3
  rw [h1] at d0
  have dd : decide (e.length ≤ i) = false := by simp; omega
  obtain ⟨va, hva⟩ : ∃ v, a.ev (vL ss bs) = v := ⟨_, rfl⟩
  obtain ⟨j0, hj0⟩ : ∃ j : Nat, j = i + 1 := ⟨_, rfl⟩
  have HIa : Hid (∀ W, RowKit.Below w.heap.size w W → Calls Tryd.prog 20 #[.slice (some ⟨b, of, none⟩) e.length c, .int .i64 (j0 : Int), .slice An ss.length cn, .slice Ab bs.length cb] W fun r w' => r = .returned (.bool va) ∧ RowKit.Below W.heap.size W w') := fun W hW => by
    rw [← hva]
    exact iha e (pre ++ [n]) (post) j0 ss bs _ An Ab c cn cb W (hX.later hW) (by rw [he]; simp [Fm.enc]) (by simp [hj0, hpi]; try omega)
  have HP := Lib.hid (fun W (hW : RowKit.Below w.heap.size w W) => r3_PartsOf e i n _ (some ⟨b, of, none⟩) c W hA hX.len hX.ok ((hX.sl.below hW).more hW.size))
  have HST : ∃ T, startsGo (n.op == 6) (i + 1) ((Fm.neg n a).subs.map Fm.enc) = [j0] ++ T := by
    have h6 := (Fm.ok_op hok).2.1
    simp only [Fm.top] at h6
    rw [h6]
    simp only [Fm.subs, List.map_cons, List.map_nil, startsGo, Bool.false_eq_true, if_false, hj0]
    exact ⟨_, rfl⟩
  obtain ⟨T, hT⟩ := HST
  have HTL : Hid (([j0] ++ T).length = 2) := by show _ = _; rw [← hT, starts_len]; rfl
  rw [hT] at HP
  have HS0 : Hid (([j0] ++ T)[0]? = some j0) := rfl
  have HV : Hid ((Fm.neg n a).ev (vL ss bs) = !va) := by
    show _ = _
    simp only [Fm.ev, hva, twoB, h1]
    try rfl
  rw [HV.out]
  clear hT
  generalize [j0] ++ T = S at HP HTL HS0
  obtain ⟨w0, hw0e⟩ : ∃ w0, w.alloc (.cells #[.int .i64 9, .int .i64 n.n, .string n.s, .string n.t] 47) = w0 := ⟨_, rfl⟩
  have HW0 := Lib.hid hw0e
  have hw0 : RowKit.Below w.heap.size w w0 := by rw [← hw0e]; (repeat (first | assumption | exact Below.refl _ _ | apply Below.drew | apply below_drewN | (refine Below.alloc ?_ (by first | exact Nat.le_refl _ | omega | (simp; done) | (simp; omega)) _)))
  have B0 : Blk w0 w.heap.size 47 #[.int .i64 9, .int .i64 n.n, .string n.s, .string n.t] := by rw [← hw0e]; exact Blk.new w _ _
  clear hX he hA hx hcs hok hshp h1 HV hw0e hsub hpi hva hj0 iha
  clear hlen hseq hsix
  go_enter Tryd.func20, Tryd.ntmps20
  go_wp2_with fail
  rw [HW0.out]
  refine (HP.out _ hw0).mono ?_
  rintro r w1 ⟨PA, pc, rfl, hp1, hp2, hp3, hb1⟩
  rw [HTL.out] at hp1 ⊢
  have hw1 : RowKit.Below w.heap.size w w1 := hw0.trans (hb1.mono hw0.size)
  have B1 := Lib.hid (B0.below hb1 B0.lt)
  obtain ⟨pb, po, rfl, hpb, q0⟩ := inSl_at hp3 HS0.out
  have HQ1 : Hid (∀ W, RowKit.Below w1.heap.size w1 W → ∀ k j, S[k]? = some j → W.cell? ⟨pb, po + k, none⟩ = some (.int .i64 ((j : Nat) : Int))) := fun W hW k j hk => by
    obtain ⟨b', o', h1, _, h2⟩ := inSl_at hp3 hk
    injection h1 with h1
    injection h1 with h1 h3
    subst h1 h3
    exact (hW.cell (p := ⟨pb, po + k, none⟩) hpb).trans h2
  rw [Nat.add_zero] at q0
  have u0 := B1.out.cell 0
  have ul := B1.out.lt
  clear hp3 hb1 B0
  go_wp2_with fail
  refine (HIa.out _ hw1).mono ?_
  rintro r w2 ⟨rfl, hb2⟩
  have hw2 : RowKit.Below w.heap.size w w2 := hw1.trans (hb2.mono hw1.size)
  have h1w2 : RowKit.Below w1.heap.size w1 w2 := hb2
  have B2 := Lib.hid (B1.out.below hb2 B1.out.lt)
  clear u0 ul hb2
  have u0 := B2.out.cell 0
  have ul := B2.out.lt
  go_wp2_with fail
  go_ret
  exact ⟨rfl, hw2⟩
set_option maxRecDepth 100000 in
set_option maxHeartbeats 12800000 in
theorem is_ite (n : Nd) (a d g : Fm) (h1 : n.op = 13) (hsub : a.Ok ∧ d.Ok ∧ g.Ok) (iha : IsOk a) (ihd : IsOk d) (ihg : IsOk g) : IsOk (Fm.ite n a d g) := by
  intro e pre post i ss bs A An Ab c cn cb w hX he hpi
  have hok : (Fm.ite n a d g).Ok := ⟨h1, hsub⟩
  have hshp : ∀ x ∈ (Fm.ite n a d g).enc, shapedT x = true := fun x hx => hX.shp x (by rw [he]; simp only [List.mem_append]; exact .inl (.inr hx))
  have hA := fm_at hok hshp he hpi
  have hx := hA.get
  have hil : i < e.length := (List.getElem?_eq_some_iff.1 hx).1
  have hlen := hX.len
  have hseq := hX.eq
  have hsix := hX.six
  obtain ⟨b, of, rfl, hb, hcs⟩ := hX.sl.at_ hil
  obtain ⟨d0, d1, d2, d3⟩ := hcs i _ hx
  simp only [Fm.top] at d0 d1 d2 d3
  rw [h1] at d0
  have dd : decide (e.length ≤ i) = false := by simp; omega
  obtain ⟨va, hva⟩ : ∃ v, a.ev (vL ss bs) = v := ⟨_, rfl⟩
  obtain ⟨j0, hj0⟩ : ∃ j : Nat, j = i + 1 := ⟨_, rfl⟩
  have HIa : Hid (∀ W, RowKit.Below w.heap.size w W → Calls Tryd.prog 20 #[.slice (some ⟨b, of, none⟩) e.length c, .int .i64 (j0 : Int), .slice An ss.length cn, .slice Ab bs.length cb] W fun r w' => r = .returned (.bool va) ∧ RowKit.Below W.heap.size W w') := fun W hW => by
    rw [← hva]
    exact iha e (pre ++ [n]) (d.enc ++ g.enc ++ post) j0 ss bs _ An Ab c cn cb W (hX.later hW) (by rw [he]; simp [Fm.enc]) (by simp [hj0, hpi]; try omega)
  obtain ⟨vd, hvd⟩ : ∃ v, d.ev (vL ss bs) = v := ⟨_, rfl⟩
  obtain ⟨j1, hj1⟩ : ∃ j : Nat, j = i + 1 + a.enc.length := ⟨_, rfl⟩
  have HId : Hid (∀ W, RowKit.Below w.heap.size w W → Calls Tryd.prog 20 #[.slice (some ⟨b, of, none⟩) e.length c, .int .i64 (j1 : Int), .slice An ss.length cn, .slice Ab bs.length cb] W fun r w' => r = .returned (.bool vd) ∧ RowKit.Below W.heap.size W w') := fun W hW => by
    rw [← hvd]
    exact ihd e (pre ++ [n] ++ a.enc) (g.enc ++ post) j1 ss bs _ An Ab c cn cb W (hX.later hW) (by rw [he]; simp [Fm.enc]) (by simp [hj1, hpi]; try omega)
  obtain ⟨vg, hvg⟩ : ∃ v, g.ev (vL ss bs) = v := ⟨_, rfl⟩
  obtain ⟨j2, hj2⟩ : ∃ j : Nat, j = i + 1 + a.enc.length + d.enc.length := ⟨_, rfl⟩
  have HIg : Hid (∀ W, RowKit.Below w.heap.size w W → Calls Tryd.prog 20 #[.slice (some ⟨b, of, none⟩) e.length c, .int .i64 (j2 : Int), .slice An ss.length cn, .slice Ab bs.length cb] W fun r w' => r = .returned (.bool vg) ∧ RowKit.Below W.heap.size W w') := fun W hW => by
    rw [← hvg]
    exact ihg e (pre ++ [n] ++ a.enc ++ d.enc) (post) j2 ss bs _ An Ab c cn cb W (hX.later hW) (by rw [he]; simp [Fm.enc]) (by simp [hj2, hpi]; try omega)
  have HP := Lib.hid (fun W (hW : RowKit.Below w.heap.size w W) => r3_PartsOf e i n _ (some ⟨b, of, none⟩) c W hA hX.len hX.ok ((hX.sl.below hW).more hW.size))
  have HST : ∃ T, startsGo (n.op == 6) (i + 1) ((Fm.ite n a d g).subs.map Fm.enc) = [j0, j1, j2] ++ T := by
    have h6 := (Fm.ok_op hok).2.1
    simp only [Fm.top] at h6
    rw [h6]
    simp only [Fm.subs, List.map_cons, List.map_nil, startsGo, Bool.false_eq_true, if_false, hj0, hj1, hj2]
    exact ⟨_, rfl⟩
  obtain ⟨T, hT⟩ := HST
  have HTL : Hid (([j0, j1, j2] ++ T).length = 4) := by show _ = _; rw [← hT, starts_len]; rfl
  rw [hT] at HP
  have HS0 : Hid (([j0, j1, j2] ++ T)[0]? = some j0) := rfl
  have HS1 : Hid (([j0, j1, j2] ++ T)[1]? = some j1) := rfl
  have HS2 : Hid (([j0, j1, j2] ++ T)[2]? = some j2) := rfl
  have HV : Hid ((Fm.ite n a d g).ev (vL ss bs) = if va = true then vd else vg) := by
    show _ = _
    simp only [Fm.ev, hva, hvd, hvg, twoB, h1]
    try rfl
  rw [HV.out]
  clear hT
  generalize [j0, j1, j2] ++ T = S at HP HTL HS0 HS1 HS2
  obtain ⟨w0, hw0e⟩ : ∃ w0, w.alloc (.cells #[.int .i64 13, .int .i64 n.n, .string n.s, .string n.t] 47) = w0 := ⟨_, rfl⟩
  have HW0 := Lib.hid hw0e
  have hw0 : RowKit.Below w.heap.size w w0 := by rw [← hw0e]; (repeat (first | assumption | exact Below.refl _ _ | apply Below.drew | apply below_drewN | (refine Below.alloc ?_ (by first | exact Nat.le_refl _ | omega | (simp; done) | (simp; omega)) _)))
  have B0 : Blk w0 w.heap.size 47 #[.int .i64 13, .int .i64 n.n, .string n.s, .string n.t] := by rw [← hw0e]; exact Blk.new w _ _
  clear hX he hA hx hcs hok hshp h1 HV hw0e hsub hpi hva hj0 iha hvd hj1 ihd hvg hj2 ihg
  clear hlen hseq hsix
  go_enter Tryd.func20, Tryd.ntmps20
  go_wp2_with fail
  rw [HW0.out]
  refine (HP.out _ hw0).mono ?_
  rintro r w1 ⟨PA, pc, rfl, hp1, hp2, hp3, hb1⟩
  rw [HTL.out] at hp1 ⊢
  have hw1 : RowKit.Below w.heap.size w w1 := hw0.trans (hb1.mono hw0.size)
  have B1 := Lib.hid (B0.below hb1 B0.lt)
  obtain ⟨pb, po, rfl, hpb, q0⟩ := inSl_at hp3 HS0.out
  have HQ1 : Hid (∀ W, RowKit.Below w1.heap.size w1 W → ∀ k j, S[k]? = some j → W.cell? ⟨pb, po + k, none⟩ = some (.int .i64 ((j : Nat) : Int))) := fun W hW k j hk => by
    obtain ⟨b', o', h1, _, h2⟩ := inSl_at hp3 hk
    injection h1 with h1
    injection h1 with h1 h3
    subst h1 h3
    exact (hW.cell (p := ⟨pb, po + k, none⟩) hpb).trans h2
  rw [Nat.add_zero] at q0
  have u0 := B1.out.cell 0
  have ul := B1.out.lt
  clear hp3 hb1 B0
  go_wp2_with fail
  refine (HIa.out _ hw1).mono ?_
  rintro r w2 ⟨rfl, hb2⟩
  have hw2 : RowKit.Below w.heap.size w w2 := hw1.trans (hb2.mono hw1.size)
  have h1w2 : RowKit.Below w1.heap.size w1 w2 := hb2
  have B2 := Lib.hid (B1.out.below hb2 B1.out.lt)
  clear u0 ul hb2
  have u0 := B2.out.cell 0
  have ul := B2.out.lt
  have q1 := HQ1.out _ h1w2 1 _ HS1.out
  go_wp2_with fail
  refine (HId.out _ hw2).mono ?_
  rintro r w3 ⟨rfl, hb3⟩
  have hw3 : RowKit.Below w.heap.size w w3 := hw2.trans (hb3.mono hw2.size)
  have h1w3 : RowKit.Below w1.heap.size w1 w3 := h1w2.trans (hb3.mono h1w2.size)
  have B3 := Lib.hid (B2.out.below hb3 B2.out.lt)
  clear u0 ul hb3
  have u0 := B3.out.cell 0
  have ul := B3.out.lt
  have q2 := HQ1.out _ h1w3 2 _ HS2.out
  have q2 := HQ1.out _ h1w3 2 _ HS2.out
  cases va
  · simp only [Bool.false_eq_true, if_false]
    go_wp2_with fail
    refine (HIg.out _ hw3).mono ?_
    rintro r w4 ⟨rfl, hb4⟩
    have hw4 : RowKit.Below w.heap.size w w4 := hw3.trans (hb4.mono hw3.size)
    have h1w4 : RowKit.Below w1.heap.size w1 w4 := h1w3.trans (hb4.mono h1w3.size)
    have B4 := Lib.hid (B3.out.below hb4 B3.out.lt)
    clear u0 ul hb4
    have u0 := B4.out.cell 0
    have ul := B4.out.lt
    go_wp2_with fail
    go_ret
    exact ⟨rfl, hw4⟩
  · simp only [if_true]
    go_wp2_with fail
    go_ret
    exact ⟨rfl, hw3⟩
theorem is_all : ∀ f : Fm, f.Ok → IsOk f
  | .lit n, h => is_lit n h
  | .var n, h => is_var n h
  | .neg n a, h => is_neg n a h.1 h.2 (is_all a h.2)
  | .two n a d, h => by
    rcases h.1 with h1 | h1 | h1
    · exact is_two11 n a d h1 h.2 (is_all a h.2.1) (is_all d h.2.2)
    · exact is_two12 n a d h1 h.2 (is_all a h.2.1) (is_all d h.2.2)
    · exact is_two14 n a d h1 h.2 (is_all a h.2.1) (is_all d h.2.2)
  | .ite n a d g, h => is_ite n a d g h.1 h.2 (is_all a h.2.1) (is_all d h.2.2.1) (is_all g h.2.2.2)
end Go.Proofs.YtnhcjpmamgdeoaaDoor
