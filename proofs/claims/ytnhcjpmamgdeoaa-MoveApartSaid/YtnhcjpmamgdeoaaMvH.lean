/-
  THE WALKS: move.Fresh.
-/
import Derived.Test.YtnhcjpmamgdeoaaMvG
namespace Go.Proofs.Ytnhcjpmamgdeoaa
open Go.RowKit

/-- A move in memory. -/
structure MCap (m : Mv) (b : Nat) (W : World) : Prop where
  c0 : W.cell? ⟨b, 0, none⟩ = some (.int .i64 m.what)
  c1 : W.cell? ⟨b, 1, none⟩ = some (.string m.fr)
  c2 : W.cell? ⟨b, 2, none⟩ = some (.string m.to_)
  lt : b < W.heap.size
theorem MCap.later {m : Mv} {b : Nat} {W W' : World} (h : MCap m b W) (hb : Below W.heap.size W W') : MCap m b W' :=
  ⟨(hb.cell (p := ⟨b, 0, none⟩) h.lt).trans h.c0, (hb.cell (p := ⟨b, 1, none⟩) h.lt).trans h.c1, (hb.cell (p := ⟨b, 2, none⟩) h.lt).trans h.c2, Nat.lt_of_lt_of_le h.lt hb.size⟩
def hitB (m : Mv) (x : Nd) : Bool := looksB m x && x.s.toList == m.to_.toList
set_option maxRecDepth 100000 in
set_option maxHeartbeats 1600000 in
theorem fresh_clo (m : Mv) (x : Nd) (b : Nat) (w : World) (h : MCap m b w) :
    Calls Try.prog 37 #[.agg #[.int .i64 x.op, .int .i64 x.n, .string x.s, .string x.t], .pointer (some ⟨b, 0, none⟩)] w fun r w' => r = .returned (.bool (hitB m x)) ∧ Below w.heap.size w w' := by
  have HL := Lib.hid (fun W => move_looks m x W)
  have HM := Lib.hid h
  obtain ⟨c0, c1, c2, hlt⟩ := h
  obtain ⟨v, hv⟩ : ∃ v, hitB m x = v := ⟨_, rfl⟩
  rw [hv]
  have HV := Lib.hid hv
  clear hv
  cases hl : looksB m x with
  | true =>
    have HV2 : Hid (v = (x.s.toList == m.to_.toList)) := by show _ = _; rw [← HV.out]; unfold hitB; rw [hl]; rfl
    rw [hl] at HL
    clear hl
    go_enter Try.func37, Try.ntmps37
    go_wp2_with fail
    refine (HL.out _).mono ?_
    rintro r w1 ⟨rfl, hb1⟩
    have hw1 : Below w.heap.size w w1 := Below.trans (by (repeat (first | assumption | exact Below.refl _ _ | apply Below.drew | apply below_drewN | (refine Below.alloc ?_ (by first | exact Nat.le_refl _ | omega | (simp; done) | (simp; omega)) _)))) (hb1.mono (by simp))
    have e2 := (HM.out.later hw1).c2
    obtain ⟨hcc, -⟩ := bcell hb1
    have hs1 : w.heap.size < w1.heap.size := by have := hb1.size; simp at this; omega
    clear hb1 c0 c1 c2
    go_wp2_with fail
    all_goals (go_ret; rw [HV2.out]; exact ⟨rfl, hw1⟩)
  | false =>
    have HV2 : Hid (v = false) := by show _ = _; rw [← HV.out]; unfold hitB; rw [hl]; rfl
    rw [hl] at HL
    clear hl
    go_enter Try.func37, Try.ntmps37
    go_wp2_with fail
    refine (HL.out _).mono ?_
    rintro r w1 ⟨rfl, hb1⟩
    have hw1 : Below w.heap.size w w1 := Below.trans (by (repeat (first | assumption | exact Below.refl _ _ | apply Below.drew | apply below_drewN | (refine Below.alloc ?_ (by first | exact Nat.le_refl _ | omega | (simp; done) | (simp; omega)) _)))) (hb1.mono (by simp))
    clear hb1 c0 c1 c2
    go_wp2_with fail
    go_ret
    rw [HV2.out]
    exact ⟨rfl, hw1⟩
theorem any_take {m : Mv} {e : List Nd} {k : Nat} {x : Nd} (hx : e[k]? = some x) (h : (e.take k).any (hitB m) = false) (hh : hitB m x = false) : (e.take (k + 1)).any (hitB m) = false := by
  rw [List.take_add_one, hx, List.any_append, h]
  simp [hh]
theorem any_hit {m : Mv} {e : List Nd} {k : Nat} {x : Nd} (hx : e[k]? = some x) (hh : hitB m x = true) : e.any (hitB m) = true := List.any_eq_true.2 ⟨x, List.mem_of_getElem? hx, hh⟩
set_option maxRecDepth 100000 in
set_option maxHeartbeats 1600000 in
theorem fresh_index (m : Mv) (e : List Nd) (A : Option Addr) (c b : Nat) (w : World) (h : MCap m b w) (hl : e.length ≤ 9223372036854775807) (hsl : NdSl w w.heap.size A e) :
    Calls Try.prog 52 #[.slice A e.length c, .func (.func 37) #[] #[.pointer (some ⟨b, 0, none⟩)]] w fun r w' => (∃ k : Int, r = .returned (.int .i64 k) ∧ decide (0 ≤ k) = e.any (hitB m)) ∧ Below w.heap.size w w' := by
  have HM := Lib.hid h
  have HS := Lib.hid hsl
  clear h hsl
  go_enter Try.func52, Try.ntmps52
  go_wp2_with fail
  go_loopw [8] (fun kk wr => ∃ k : Nat, kk = .int .i64 k ∧ k ≤ e.length ∧ Hid ((e.take k).any (hitB m) = false) ∧ Below w.heap.size w wr) (fun kk _ => e.length - (intOf kk).toNat)
  case atStart => exact ⟨0, rfl, by omega, by simp [Hid], Below.refl _ _⟩
  case round =>
    obtain ⟨k, rfl, hk, HK, hbr⟩ := hrel
    have hzr := hbr.size
    by_cases hlt : k < e.length
    · obtain ⟨b1, o1, rfl, hb1, hcs⟩ := (HS.out.below hbr).at_ hlt
      obtain ⟨x, hx⟩ : ∃ x, e[k]? = some x := ⟨_, List.getElem?_eq_getElem hlt⟩
      obtain ⟨d0, d1, d2, d3⟩ := hcs k x hx
      have HX := Lib.hid hx
      have HC := Lib.hid (fresh_clo m x b wr (HM.out.later hbr))
      clear hcs hx
      cases hh : hitB m x with
      | true =>
        have HH := Lib.hid hh
        rw [hh] at HC
        clear hh
        go_wp2_with fail
        refine HC.out.mono ?_
        rintro r w1 ⟨rfl, hb2⟩
        have hw1 := hbr.trans (hb2.mono hbr.size)
        clear hb2 d0 d1 d2 d3
        go_wp2_with fail
        go_ret
        refine ⟨⟨k, rfl, ?_⟩, hw1⟩
        rw [any_hit HX.out HH.out]
        simp
      | false =>
        have HH := Lib.hid hh
        rw [hh] at HC
        clear hh
        go_wp2_with fail
        refine HC.out.mono ?_
        rintro r w1 ⟨rfl, hb2⟩
        have hw1 := hbr.trans (hb2.mono hbr.size)
        clear hb2 d0 d1 d2 d3
        go_wp2_with fail
        exact ⟨⟨k + 1, by go_num, by omega, any_take HX.out HK.out HH.out, hw1⟩, by simp [intOf]; omega⟩
    · have HE : Hid (e.any (hitB m) = false) := by
        have := HK.out
        rw [List.take_of_length_le (by omega)] at this
        exact this
      go_wp2_with fail
      go_ret
      refine ⟨⟨-1, rfl, ?_⟩, hbr⟩
      rw [HE.out]; rfl
set_option maxRecDepth 100000 in
set_option maxHeartbeats 1600000 in
theorem fresh_contains (m : Mv) (e : List Nd) (A : Option Addr) (c b : Nat) (w : World) (h : MCap m b w) (hl : e.length ≤ 9223372036854775807) (hsl : NdSl w w.heap.size A e) :
    Calls Try.prog 36 #[.slice A e.length c, .func (.func 37) #[] #[.pointer (some ⟨b, 0, none⟩)]] w fun r w' => r = .returned (.bool (e.any (hitB m))) ∧ Below w.heap.size w w' := by
  have HI := Lib.hid (fresh_index m e A c b w h hl hsl)
  clear h hsl
  generalize e.any (hitB m) = v at HI ⊢
  go_enter Try.func36, Try.ntmps36
  go_wp2_with fail
  refine HI.out.mono ?_
  rintro r w1 ⟨⟨k, rfl, hk⟩, hb1⟩
  have HK := Lib.hid hk
  clear hk
  go_wp2_with fail
  go_ret
  exact ⟨ret_bool HK.out, hb1⟩
def freshV (m : Mv) (e : List Nd) : Bool × Int := if mvErr m ≠ 0 then (false, mvErr m) else if treeErr e ≠ 0 then (false, treeErr e) else (freshB m e, 0)
set_option maxRecDepth 100000 in
set_option maxHeartbeats 1600000 in
theorem move_Fresh (m : Mv) (e : List Nd) (A : Option Addr) (c : Nat) (w : World) (hz : MvZ m) (hc : e.length ≤ c) (hcm : c ≤ 9223372036854775807) (hok : NdOk e) (hsl : NdSl w w.heap.size A e) :
    Calls Try.prog 19 #[.agg #[.int .i64 m.what, .string m.fr, .string m.to_], .slice A e.length c] w fun r w' => r = .returned (.tuple #[.bool (freshV m e).1, errV (freshV m e).2]) ∧ Below w.heap.size w w' := by
  have HC := Lib.hid (fun W => move_Check m W hz)
  have HT := Lib.hid (fun W (hW : Below w.heap.size w W) => tree_Check e A c W hc hcm hok ((hsl.below hW).more hW.size))
  by_cases hm : mvErr m = 0
  · have tm : (mvErr m != 0) = false := by simp [hm]
    by_cases he : treeErr e = 0
    · have te : (treeErr e != 0) = false := by simp [he]
      have HV : Hid (freshV m e = (!e.any (hitB m), 0)) := by show _ = _; unfold freshV; rw [if_neg (by simp [hm]), if_neg (by simp [he])]; rfl
      have HA := Lib.hid (fun b W (hW : Below w.heap.size w W) (hM : MCap m b W) => fresh_contains m e A c b W hM (by omega) ((hsl.below hW).more hW.size))
      clear hm he hsl hok
      generalize e.any (hitB m) = v at HA HV
      have HB : Hid (MCap m w.heap.size (w.alloc (.cells #[.int .i64 m.what, .string m.fr, .string m.to_] 51))) := by
        have h := Blk.new w 51 #[.int .i64 m.what, .string m.fr, .string m.to_]
        exact ⟨h.cell 0, h.cell 1, h.cell 2, by simp⟩
      have hmf : ∀ (fn : Fn) (first cap : Array Value) (w : World), (Instr.makeFunc fn first cap).run Try.prog w = .ok (.func fn first cap) w := fun _ _ _ _ => rfl
      go_enter Try.func19, Try.ntmps19
      go_wp2_with fail
      refine (HC.out _).mono ?_
      rintro r w1 ⟨rfl, hb1⟩
      have hw1 : Below w.heap.size w w1 := Below.trans (by (repeat (first | assumption | exact Below.refl _ _ | apply Below.drew | apply below_drewN | (refine Below.alloc ?_ (by first | exact Nat.le_refl _ | omega | (simp; done) | (simp; omega)) _)))) (hb1.mono (by simp))
      have HB1 := Lib.hid (HB.out.later hb1)
      clear hb1
      go_wp2_with fail
      refine (HT.out _ hw1).mono ?_
      rintro r w2 ⟨rfl, hb2⟩
      have hw2 := hw1.trans (hb2.mono hw1.size)
      have HB2 := Lib.hid (HB1.out.later hb2)
      clear hb2
      go_wp2_with fail
      refine (HA.out _ _ hw2 HB2.out).mono ?_
      rintro r w3 ⟨rfl, hb3⟩
      go_wp2_with fail
      go_ret2
      rw [HV.out]
      exact ⟨rfl, hw2.trans (hb3.mono hw2.size)⟩
    · have te : (treeErr e != 0) = true := by simp [he]
      have HV : Hid (freshV m e = (false, treeErr e)) := by show _ = _; unfold freshV; rw [if_neg (by simp [hm]), if_pos he]
      clear hm he hsl hok
      generalize treeErr e = k at HT te HV
      go_enter Try.func19, Try.ntmps19
      go_wp2_with fail
      refine (HC.out _).mono ?_
      rintro r w1 ⟨rfl, hb1⟩
      have hw1 : Below w.heap.size w w1 := Below.trans (by (repeat (first | assumption | exact Below.refl _ _ | apply Below.drew | apply below_drewN | (refine Below.alloc ?_ (by first | exact Nat.le_refl _ | omega | (simp; done) | (simp; omega)) _)))) (hb1.mono (by simp))
      clear hb1
      go_wp2_with fail
      refine (HT.out _ hw1).mono ?_
      rintro r w2 ⟨rfl, hb2⟩
      have hw2 := hw1.trans (hb2.mono hw1.size)
      clear hb2
      go_wp2_with fail
      go_ret2
      rw [HV.out]
      exact ⟨rfl, hw2⟩
  · have tm : (mvErr m != 0) = true := by simp [hm]
    have HV : Hid (freshV m e = (false, mvErr m)) := by show _ = _; unfold freshV; rw [if_pos hm]
    clear hm hsl hok
    generalize mvErr m = k at HC tm HV
    go_enter Try.func19, Try.ntmps19
    go_wp2_with fail
    refine (HC.out _).mono ?_
    rintro r w1 ⟨rfl, hb1⟩
    have hw1 : Below w.heap.size w w1 := Below.trans (by (repeat (first | assumption | exact Below.refl _ _ | apply Below.drew | apply below_drewN | (refine Below.alloc ?_ (by first | exact Nat.le_refl _ | omega | (simp; done) | (simp; omega)) _)))) (hb1.mono (by simp))
    clear hb1
    go_wp2_with fail
    go_ret2
    rw [HV.out]
    exact ⟨rfl, hw1⟩
end Go.Proofs.Ytnhcjpmamgdeoaa
