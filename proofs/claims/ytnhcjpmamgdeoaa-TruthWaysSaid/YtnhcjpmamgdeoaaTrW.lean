/-
  THE WALK of the law TruthWays.
-/
import Derived.Test.YtnhcjpmamgdeoaaTrL
namespace Go.Proofs.Ytnhcjpmamgdeoaa
set_option maxRecDepth 100000
open Go.RowKit Go.Sort

theorem ways_cell {N : Nat} {t : List Bool} (ht : t.length = 2 ^ N) {i : Nat} {c : Ce} (hc : (diaP N t)[i]? = some c) (h2 : 2 ≤ i) : c.low < i ∧ c.high < i ∧ ((c.atom = -1 ∧ (diaP N t).length = 3 ∧ c.low = c.high) ∨ (0 ≤ c.atom ∧ c.atom < (N : Int) ∧ c.low ≠ c.high)) := (dia_low N ht).2.1 i c hc h2
theorem ceSl_ix {w : World} {B b o : Nat} {xs : List Ce} (h : CeSl w B (some ⟨b, o, none⟩) xs) {i : Nat} {x : Ce} (hx : xs[i]? = some x) : w.cell? ⟨b, o + i * 3, none⟩ = some (.int .i64 x.atom) ∧ w.cell? ⟨b, o + i * 3 + 1, none⟩ = some (.int .i64 x.low) ∧ w.cell? ⟨b, o + i * 3 + 2, none⟩ = some (.int .i64 x.high) := by
  obtain ⟨b', o', h1, h2, h3⟩ := ceSl_at h hx
  injection h1 with h1
  injection h1 with h1 h4
  subst h1 h4
  exact h3
theorem quo_bit (row p : Nat) (h : row ≤ 1000) : (wrap64 ((row : Int) / (p : Int))).tmod 2 = ((row / p % 2 : Nat) : Int) := by
  have h1 := Nat.div_le_self row p
  rw [← Int.natCast_ediv]
  generalize row / p = z at h1
  rw [IntWalk.wrap64_in _ ⟨by omega, by omega⟩, Int.tmod_eq_emod_of_nonneg (by omega)]
  omega
set_option maxHeartbeats 12800000 in
theorem law_ways (e : List Nd) (A : Option Addr) (c : Nat) (ss : List (List UInt8)) (An : Option Addr) (cn : Nat) (w : World) (hc : e.length ≤ c) (hcm : c ≤ 9223372036854775807) (hok : NdOk e) (hsl : NdSl w w.heap.size A e) (hss : StrSl w w.heap.size An ss) (hn : ss.length ≤ cn) (hcn : cn ≤ 9223372036854775807) :
    Calls Try.prog 3 #[.slice A e.length c, .slice An ss.length cn] w fun r w' => r = .returned (.bool true) ∧ RowKit.Below w.heap.size w w' := by
  have H1 := Lib.hid (fun W (hW : RowKit.Below w.heap.size w W) => truth_Diagram e A c ss An cn W hc hcm hok ((hsl.below hW).more hW.size) ((hss.below hW).more hW.size) hn hcn)
  have H2 := Lib.hid (fun W (hW : RowKit.Below w.heap.size w W) => truth_Table e A c ss An cn W hc hcm hok ((hsl.below hW).more hW.size) ((hss.below hW).more hW.size) hn hcn)
  have t0 := errV_zero
  by_cases hk : frmErr e ss = 0
  · have h6 : ss.length ≤ 6 := (atoms_ok.1 (frm_ok.1 hk).2).1
    have ld := diaR_len e ss
    have hT := (tableP_len hk).2
    have hR : diaR e ss = diaP ss.length (tableP e ss).1 := by unfold diaR; rw [if_pos hk]
    have HP := Lib.hid hT
    have hp : 2 ^ ss.length ≤ 64 := Nat.pow_le_pow_right (by omega) h6
    rw [hk] at H1 H2
    rw [hR] at H1 ld
    clear hR hk hc hok hsl hss
    generalize (tableP e ss).1 = t at H1 H2 HP ld hT
    have l3 := (dia_low ss.length hT).1
    have HD := Lib.hid (dia_low ss.length hT)
    have lt : t.length ≤ 64 := by omega
    clear hT hp
    obtain ⟨D, hD⟩ : ∃ D, diaP ss.length t = D := ⟨_, rfl⟩
    have HDD := Lib.hid hD
    rw [hD] at H1 ld l3 HD
    clear hD
    go_enter Try.func3, Try.ntmps3
    go_wp2_with fail
    refine (law_tabled w).mono ?_
    rintro r w1 ⟨rfl, hb1⟩
    go_wp2_with fail
    refine (H1.out _ hb1).mono ?_
    rintro r w2 ⟨A2, c2, rfl, -, -, h2, hb2⟩
    have hw2 := hb1.trans (hb2.mono hb1.size)
    have HS2 := Lib.hid h2
    clear hb1 hb2 h2
    go_wp2_with fail
    refine (H2.out _ hw2).mono ?_
    rintro r w3 ⟨A3, c3, rfl, -, -, h3, hb3⟩
    have hw3 := hw2.trans (hb3.mono hw2.size)
    have HS3 := Lib.hid h3
    have HS23 := Lib.hid ((HS2.out.below hb3).more hb3.size)
    clear hb3 h3 HS2 H1 H2
    have s1 : ¬ (D.length : Int) < 3 := by omega
    have s2 : ¬ (6 : Int) < (ss.length : Int) := by omega
    go_wp2_with fail
    go_loopw [10] (fun ii wr => ∃ i : Nat, ii = .int .i64 i ∧ 2 ≤ i ∧ i ≤ D.length ∧ RowKit.Below w3.heap.size w3 wr) (fun ii _ => D.length - (intOf ii).toNat)
    case atStart => exact ⟨2, rfl, by omega, by omega, RowKit.Below.refl _ _⟩
    case round =>
      obtain ⟨i, rfl, hi2, hil, hbr⟩ := hrel
      by_cases hlt : i < D.length
      · obtain ⟨x, hx⟩ : ∃ x, D[i]? = some x := ⟨_, List.getElem?_eq_getElem hlt⟩
        obtain ⟨b, o, rfl, hb, d0, d1, d2⟩ := ceSl_at (HS23.out.below hbr) hx
        obtain ⟨x1, x2, x3⟩ := HD.out.2.1 i x hx hi2
        have HX := Lib.hid hx
        clear hx
        have i1 : 0 ≤ (i : Int) := by omega
        have i2 : (i : Int) < (D.length : Int) := by omega
        have q1 : decide ((x.low : Int) < 0) = false := by rw [decide_eq_false_iff_not]; omega
        have q2 : decide ((x.high : Int) < 0) = false := by rw [decide_eq_false_iff_not]; omega
        have q3 : decide ((i : Int) ≤ (x.low : Int)) = false := by rw [decide_eq_false_iff_not]; omega
        have q4 : decide ((i : Int) ≤ (x.high : Int)) = false := by rw [decide_eq_false_iff_not]; omega
        have q5 : decide (i ≤ x.low) = false := by rw [decide_eq_false_iff_not]; omega
        have q6 : decide (i ≤ x.high) = false := by rw [decide_eq_false_iff_not]; omega
        rcases x3 with ⟨a1, a2, a3⟩ | ⟨a1, a2, a3⟩
        have r1 : (x.atom == -1) = true := by simp [a1]
        have r2 : ((D.length : Int) == 3) = true := by rw [beq_iff_eq]; omega
        have r3 : ((x.low : Int) == (x.high : Int)) = true := by rw [beq_iff_eq]; omega
        clear a1 a2 a3 x1 x2
        go_wp2_with fail
        go_quiet (fail)
        go_wp2_with fail
        dsimp only [List.append]
        go_quiet (fail)
        go_wp2_with fail
        clear r1 r2 r3
        rotate_left
        have r1 : (x.atom == -1) = false := by rw [beq_eq_false_iff_ne]; omega
        have r3 : ((x.low : Int) == (x.high : Int)) = false := by rw [beq_eq_false_iff_ne]; omega
        have r4 : decide (x.atom < 0) = false := by rw [decide_eq_false_iff_not]; omega
        have r5 : decide ((ss.length : Int) ≤ x.atom) = false := by rw [decide_eq_false_iff_not]; omega
        clear a1 a2 a3 x1 x2
        go_wp2_with fail
        go_quiet (fail)
        go_wp2_with fail
        dsimp only [List.append]
        go_quiet (fail)
        go_wp2_with fail
        clear r1 r3 r4 r5
        all_goals
          clear q1 q2 q3 q4 q5 q6 d0 d1 d2
          obtain ⟨wo, rfl⟩ : ∃ wo : World, wo = wr := ⟨_, rfl⟩
          go_loopw [12] (fun jj wv => ∃ j : Nat, jj = .int .i64 j ∧ 2 ≤ j ∧ j ≤ i ∧ RowKit.Below w3.heap.size w3 wv) (fun jj _ => i - (intOf jj).toNat)
          case atStart => exact ⟨2, rfl, by omega, by omega, by (repeat (first | assumption | exact Below.refl _ _ | apply Below.drew | apply below_drewN | (refine Below.alloc ?_ (by first | exact Nat.le_refl _ | omega | (simp; done) | (simp; omega)) _)))⟩
          case round =>
            obtain ⟨j, rfl, hj2, hji, hbj⟩ := hrel
            by_cases hjl : j < i
            · obtain ⟨y, hy⟩ : ∃ y, D[j]? = some y := ⟨_, List.getElem?_eq_getElem (by omega)⟩
              obtain ⟨f0, f1, f2⟩ := ceSl_ix (HS23.out.below hbj) hy
              obtain ⟨g0, g1, g2⟩ := ceSl_ix (HS23.out.below hbj) HX.out
              have hne : (y == x) = false := by simpa using HD.out.2.2 i j x y hj2 hjl HX.out hy
              have heq : ∀ W, (Op.equalIn 10000 34 (.agg #[.int .i64 y.atom, .int .i64 y.low, .int .i64 y.high]) (.agg #[.int .i64 x.atom, .int .i64 x.low, .int .i64 x.high])).run Try.prog W = .ok false W := fun W => by rw [eq_ce, hne]
              have j1 : 0 ≤ (j : Int) := by omega
              have j2 : (j : Int) < (D.length : Int) := by omega
              clear hy hne
              go_wp2_with fail
              go_quiet (fail)
              go_wp2_with fail
              exact ⟨⟨j + 1, by go_num, by omega, by omega, below_drewN hbj _⟩, by simp [intOf]; omega⟩
            · go_wp2_with fail
              exact ⟨⟨i + 1, by go_num, by omega, by omega, hbj⟩, by simp [intOf]; omega⟩
      · go_wp2_with fail
        obtain ⟨wo, rfl⟩ : ∃ wo : World, wo = wr := ⟨_, rfl⟩
        go_loopw [13] (fun rr wv => ∃ row : Nat, rr = .int .i64 row ∧ row ≤ t.length ∧ RowKit.Below w3.heap.size w3 wv) (fun rr _ => t.length - (intOf rr).toNat)
        case atStart => exact ⟨0, rfl, by omega, hbr⟩
        case round =>
          obtain ⟨row, rfl, hrow, hbv⟩ := hrel
          by_cases hrl : row < t.length
          · obtain ⟨tb, htb⟩ : ∃ tb, t[row]? = some tb := ⟨_, List.getElem?_eq_getElem hrl⟩
            have HTB := Lib.hid htb
            clear htb
            have HW0 : Hid (WayAt t D ss.length row (D.length - 1) (-1)) := by
              have := way_start ss.length HP.out row (by rw [← HP.out]; exact hrl)
              rw [HDD.out] at this; exact this
            have HRW : Hid (row < 2 ^ ss.length) := by show _ < _; rw [← HP.out]; exact hrl
            go_wp2_with fail
            obtain ⟨wp, rfl⟩ : ∃ wp : World, wp = wr := ⟨_, rfl⟩
            go_loopw [14, 15] (fun aa ll wv => ∃ (a : Nat) (last : Int), aa = .int .i64 a ∧ ll = .int .i64 last ∧ a < D.length ∧ -1 ≤ last ∧ last < 6 ∧ Hid (WayAt t D ss.length row a last) ∧ RowKit.Below w3.heap.size w3 wv) (fun aa _ _ => (intOf aa).toNat)
            case atStart => exact ⟨D.length - 1, -1, by rw [show ((D.length - 1 : Nat) : Int) = (D.length : Int) - 1 from by omega], rfl, by omega, by omega, by omega, HW0, hbv⟩
            case round =>
              obtain ⟨a, last, rfl, rfl, hal, hl1, hl2, HW, hba⟩ := hrel
              by_cases ha : 1 < a
              · obtain ⟨x, hx⟩ : ∃ x, D[a]? = some x := ⟨_, List.getElem?_eq_getElem hal⟩
                obtain ⟨b, o, rfl, hb, d0, d1, d2⟩ := ceSl_at (HS23.out.below hba) hx
                have hzr := hba.size
                by_cases hat : x.atom < 0
                · obtain ⟨y1, y2⟩ := way_fixed HW.out hx (by omega) hat
                  have HY := Lib.hid y1
                  clear hx y1
                  go_wp2_with fail
                  exact ⟨⟨x.low, last, rfl, rfl, by omega, hl1, hl2, HY, by (repeat (first | assumption | exact Below.refl _ _ | apply Below.drew | apply below_drewN | (refine Below.alloc ?_ (by first | exact Nat.le_refl _ | omega | (simp; done) | (simp; omega)) _)))⟩, by simp [intOf]; omega⟩
                · obtain ⟨s3, s4, s5⟩ := way_step HW.out hx (by omega) (by omega)
                  have HY := Lib.hid s5
                  clear hx s5
                  have hat' : 0 ≤ x.atom := by omega
                  go_wp2_with fail
                  go_loop [17, 18] (fun st kk => ∃ m p : Nat, st = .int .i64 p ∧ kk = .int .i64 (x.atom + 1 + m) ∧ Hid (p = 2 ^ m) ∧ x.atom + 1 + m ≤ ss.length ∧ 1 ≤ p ∧ p ≤ 64) (fun _ kk => (ss.length - intOf kk).toNat)
                  case atStart => exact ⟨0, 1, rfl, by simp, rfl, by omega, by omega, by omega⟩
                  case round =>
                    obtain ⟨m, p, rfl, rfl, HP2, hm, hp1, hp2⟩ := hrel
                    by_cases hml : x.atom + 1 + m < ss.length
                    · have hpp : p * 2 ≤ 64 := by
                        rw [HP2.out, ← Nat.pow_succ]; exact (Nat.pow_le_pow_right (by omega) (by omega) : 2 ^ (m + 1) ≤ 2 ^ 6)
                      have HP3 : Hid (p * 2 = 2 ^ (m + 1)) := by show _ = _; rw [HP2.out, Nat.pow_succ]
                      go_wp2_with fail
                      exact ⟨⟨m + 1, p * 2, by go_num, by go_num, HP3, by omega, by omega, hpp⟩, by simp [intOf]; omega⟩
                    · have HZ := Lib.hid (HY.out m (by omega))
                      have hq := quo_bit row p (by omega)
                      by_cases hbit : row / p % 2 = 1
                      · have k1 : ((wrap64 ((row : Int) / (p : Int))).tmod 2 == 1) = true := by rw [hq, beq_iff_eq]; omega
                        have HZ1 : Hid (WayAt t D ss.length row x.high x.atom ∧ x.high < a) := by
                          have := HZ.out
                          rw [← HP2.out, if_pos hbit] at this
                          exact ⟨this.1, this.2.2⟩
                        clear hbit hq
                        go_wp2_with fail
                        have hz := HZ1.out
                        exact ⟨⟨x.high, x.atom, rfl, rfl, by omega, by omega, by omega, hz.1, by (repeat (first | assumption | exact Below.refl _ _ | apply Below.drew | apply below_drewN | (refine Below.alloc ?_ (by first | exact Nat.le_refl _ | omega | (simp; done) | (simp; omega)) _)))⟩, by simp [intOf]; omega⟩
                      · have k1 : ((wrap64 ((row : Int) / (p : Int))).tmod 2 == 1) = false := by rw [hq, beq_eq_false_iff_ne]; omega
                        have HZ1 : Hid (WayAt t D ss.length row x.low x.atom ∧ x.low < a) := by
                          have := HZ.out
                          rw [← HP2.out, if_neg hbit] at this
                          exact ⟨this.1, this.2.1⟩
                        clear hbit hq
                        go_wp2_with fail
                        have hz := HZ1.out
                        exact ⟨⟨x.low, x.atom, rfl, rfl, by omega, by omega, by omega, hz.1, by (repeat (first | assumption | exact Below.refl _ _ | apply Below.drew | apply below_drewN | (refine Below.alloc ?_ (by first | exact Nat.le_refl _ | omega | (simp; done) | (simp; omega)) _)))⟩, by simp [intOf]; omega⟩
              · have hte := way_end HW.out (by omega) HRW.out
                rw [HTB.out] at hte
                injection hte with hte
                obtain ⟨b, o, rfl, hb, d0⟩ := boSl_at (HS3.out.below hba) HTB.out
                by_cases h1 : a = 1
                · have e1 : ((a : Int) == 1) = true := by rw [beq_iff_eq]; omega
                  have e2 : tb = true := by rw [hte, beq_iff_eq]; exact h1
                  subst e2
                  clear hte h1
                  go_wp2_with fail
                  exact ⟨⟨row + 1, by go_num, by omega, hba⟩, by simp [intOf]; omega⟩
                · have e1 : ((a : Int) == 1) = false := by rw [beq_eq_false_iff_ne]; omega
                  have e2 : tb = false := by rw [hte, beq_eq_false_iff_ne]; exact h1
                  subst e2
                  clear hte h1
                  go_wp2_with fail
                  exact ⟨⟨row + 1, by go_num, by omega, hba⟩, by simp [intOf]; omega⟩
          · go_wp2_with fail
            go_ret
            exact ⟨rfl, hw3.trans (hbv.mono hw3.size)⟩
  · have tk : (frmErr e ss != 0) = true := by simp [hk]
    clear hk hok hsl hss hc
    generalize frmErr e ss = k at H1 H2 tk
    go_enter Try.func3, Try.ntmps3
    go_wp2_with fail
    refine (law_tabled w).mono ?_
    rintro r w1 ⟨rfl, hb1⟩
    go_wp2_with fail
    refine (H1.out _ hb1).mono ?_
    rintro r w2 ⟨A2, c2, rfl, -, -, h2, hb2⟩
    have hw2 := hb1.trans (hb2.mono hb1.size)
    clear hb1 hb2 h2
    go_wp2_with fail
    refine (H2.out _ hw2).mono ?_
    rintro r w3 ⟨A3, c3, rfl, -, -, h3, hb3⟩
    have hw3 := hw2.trans (hb3.mono hw2.size)
    clear hb3 h3
    go_wp2_with fail
    go_ret
    exact ⟨rfl, hw3⟩
end Go.Proofs.Ytnhcjpmamgdeoaa
