/-
  THE WALK of the law TruthOne.
-/
import Derived.Test.YtnhcjpmamgdeoaaTrK
import Derived.Test.YtnhcjpmamgdeoaaTrLaw
import Derived.Laws.StructEq
namespace Go.Proofs.Ytnhcjpmamgdeoaa
set_option maxRecDepth 100000
open Go.RowKit Go.Sort

theorem eq_ce (x y : Ce) (w : World) : (Op.equalIn 10000 34 (.agg #[.int .i64 x.atom, .int .i64 x.low, .int .i64 x.high]) (.agg #[.int .i64 y.atom, .int .i64 y.low, .int .i64 y.high])).run Try.prog w = .ok (x == y) w := by
  have u3 := Try.underlying3
  have a3 := Try.isAgg3
  have z3 := Try.sizeOf3
  have hS : Try.prog.underlying 34 = some (.struct (Try.prog.fieldsOf 34)) := by kernel_rfl
  have hp : Try.prog.stoodInHeld 34 = false := by kernel_rfl
  rw [show (10000 : Nat) = 9999 + 1 from rfl, run_equalIn_agg w 9999 34 _ _ hS hp]
  simp only [Program.fieldsOf, Try.underlying34]
  go_simp
  obtain ⟨a, l, u⟩ := x
  obtain ⟨a', l', u'⟩ := y
  by_cases h1 : a = a' <;> by_cases h2 : l = l' <;> by_cases h3 : u = u' <;> simp [h1, h2, h3, bne, Int.ofNat_inj]
theorem neq_ce (x y : Ce) (w : World) : (binOp .neq 34 (.agg #[.int .i64 x.atom, .int .i64 x.low, .int .i64 x.high]) (.agg #[.int .i64 y.atom, .int .i64 y.low, .int .i64 y.high])).run Try.prog w = .ok (.bool (x != y)) w := by
  rw [run_neq_struct, eq_ce]; rfl
theorem ceSl_at {w : World} {B : Nat} {A : Option Addr} {xs : List Ce} (h : CeSl w B A xs) {i : Nat} {x : Ce} (hx : xs[i]? = some x) : ∃ b o, A = some ⟨b, o, none⟩ ∧ b < B ∧ w.cell? ⟨b, o + i * 3, none⟩ = some (.int .i64 x.atom) ∧ w.cell? ⟨b, o + i * 3 + 1, none⟩ = some (.int .i64 x.low) ∧ w.cell? ⟨b, o + i * 3 + 2, none⟩ = some (.int .i64 x.high) := by
  obtain ⟨b, o, h1, h2, h3⟩ := h.at_ (List.getElem?_eq_some_iff.1 hx).1
  exact ⟨b, o, h1, h2, h3 i x hx 0 _ rfl, h3 i x hx 1 _ rfl, h3 i x hx 2 _ rfl⟩
set_option maxHeartbeats 6400000 in
theorem law_cells (xs ys : List Ce) (A1 A2 : Option Addr) (c1 c2 : Nat) (w : World) (h1 : CeSl w w.heap.size A1 xs) (h2 : CeSl w w.heap.size A2 ys) (l1 : xs.length ≤ 1000) (l2 : ys.length ≤ 1000) :
    Calls Try.prog 17 #[.slice A1 xs.length c1, .slice A2 ys.length c2] w fun r w' => r = .returned (.bool (xs == ys)) ∧ RowKit.Below w.heap.size w w' := by
  have H1 := Lib.hid h1
  have H2 := Lib.hid h2
  clear h1 h2
  obtain ⟨q, hq⟩ : ∃ q, (xs == ys) = q := ⟨_, rfl⟩
  rw [hq]
  have HQ := Lib.hid hq
  clear hq
  by_cases hlen : xs.length = ys.length
  · have tl : ((xs.length : Int) != (ys.length : Int)) = false := by simp [hlen]
    have HL := Lib.hid hlen
    have hle : xs.length ≤ ys.length := by omega
    clear hlen
    go_enter Try.func17, Try.ntmps17
    go_wp2_with fail
    go_loopw [5] (fun kk wr => ∃ k : Nat, kk = .int .i64 k ∧ k ≤ xs.length ∧ Hid (xs.take k = ys.take k) ∧ RowKit.Below w.heap.size w wr) (fun kk _ => xs.length - (intOf kk).toNat)
    case atStart => exact ⟨0, rfl, by omega, rfl, RowKit.Below.refl _ _⟩
    case round =>
      obtain ⟨k, rfl, hk, HK, hbr⟩ := hrel
      have hzr := hbr.size
      by_cases hlt : k < xs.length
      · obtain ⟨x, hx⟩ : ∃ x, xs[k]? = some x := ⟨_, List.getElem?_eq_getElem hlt⟩
        obtain ⟨y, hy⟩ : ∃ y, ys[k]? = some y := ⟨_, List.getElem?_eq_getElem (by omega)⟩
        obtain ⟨b, o, rfl, hb, d0, d1, d2⟩ := ceSl_at (H1.out.below hbr) hx
        obtain ⟨b', o', rfl, hb', f0, f1, f2⟩ := ceSl_at (H2.out.below hbr) hy
        have hlt2 : k < ys.length := by omega
        have HX := Lib.hid hx
        have HY := Lib.hid hy
        clear hx hy
        have i1 : 0 ≤ (k : Int) := by omega
        have i2 : (k : Int) < (xs.length : Int) := by omega
        have i3 : (k : Int) < (ys.length : Int) := by omega
        have heq : ∀ W, (binOp .neq 34 (.agg #[.int .i64 x.atom, .int .i64 x.low, .int .i64 x.high]) (.agg #[.int .i64 y.atom, .int .i64 y.low, .int .i64 y.high])).run Try.prog W = .ok (.bool (x != y)) W := fun W => neq_ce x y W
        have heq2 : ∀ W, (Op.equalIn 10000 34 (.agg #[.int .i64 x.atom, .int .i64 x.low, .int .i64 x.high]) (.agg #[.int .i64 y.atom, .int .i64 y.low, .int .i64 y.high])).run Try.prog W = .ok (x == y) W := fun W => eq_ce x y W
        by_cases hxy : x = y
        · have HK2 : Hid (xs.take (k + 1) = ys.take (k + 1)) := by show _ = _; rw [List.take_add_one, List.take_add_one, HX.out, HY.out, HK.out, hxy]
          rw [show (x != y) = false from by simp [hxy]] at heq
          rw [show (x == y) = true from by simp [hxy]] at heq2
          clear hxy
          go_wp2_with fail
          go_quiet (fail)
          go_wp2_with fail
          exact ⟨⟨k + 1, by go_num, by omega, HK2, below_drewN hbr _⟩, by simp [intOf]; omega⟩
        · have hv : Hid (q = false) := by
            show _ = _
            rw [← HQ.out]
            apply Bool.eq_false_iff.2
            intro h
            have h' : xs = ys := by simpa using h
            have := HX.out
            rw [h', HY.out] at this
            injection this with this
            exact hxy this.symm
          rw [show (x != y) = true from by simp [hxy]] at heq
          rw [show (x == y) = false from by simp [hxy]] at heq2
          clear hxy
          go_wp2_with fail
          go_quiet (fail)
          go_wp2_with fail
          go_ret
          rw [hv.out]
          exact ⟨rfl, below_drewN hbr _⟩
      · have hv : Hid (q = true) := by
          show _ = _
          rw [← HQ.out]
          have := HK.out
          rw [List.take_of_length_le (by omega), List.take_of_length_le (by rw [← HL.out]; omega)] at this
          simpa using this
        go_wp2_with fail
        go_ret
        rw [hv.out]
        exact ⟨rfl, hbr⟩
  · have tl : ((xs.length : Int) != (ys.length : Int)) = true := by simp; omega
    have hv : Hid (q = false) := by
      show _ = _
      rw [← HQ.out]
      apply Bool.eq_false_iff.2
      intro h
      have h' : xs = ys := by simpa using h
      exact hlen (by rw [h'])
    clear hlen
    go_enter Try.func17, Try.ntmps17
    go_wp2_with fail
    go_ret
    rw [hv.out]
    exact ⟨rfl, RowKit.Below.refl _ _⟩

theorem tableP_len {e : List Nd} {ss : List (List UInt8)} (h : frmErr e ss = 0) : (tableP e ss).1 = tabB (evL e) ss ∧ (tableP e ss).1.length = 2 ^ ss.length := by
  unfold tableP
  rw [if_neg (by simp [h])]
  exact ⟨rfl, tabB_len _ _⟩
theorem diaR_len (e : List Nd) (ss : List (List UInt8)) : (diaR e ss).length ≤ 100 := by
  unfold diaR
  split
  · rename_i h
    have h6 := (atoms_ok.1 (frm_ok.1 h).2).1
    have hp : 2 ^ ss.length ≤ 64 := Nat.pow_le_pow_right (by omega) h6
    have n1 := dOf_len ss.length ceBase (tableP e ss).1 0 (by simp [ceBase])
    have hb : ceBase.length = 2 := rfl
    unfold diaP
    split
    · rw [List.length_append, List.length_cons, List.length_nil]; omega
    · omega
  · simp
/-- ONE DIAGRAM, plainly. -/
theorem one_plain {a b : List Nd} {ss : List (List UInt8)} (h : alikeErr a b ss = 0) : frmErr a ss = 0 ∧ frmErr b ss = 0 ∧ (diaR a ss == diaR b ss) = alikeB a b ss := by
  have h' := h
  unfold alikeErr at h'
  have ha : treeErr a = 0 := by
    rcases Classical.em (treeErr a = 0) with k | k
    · exact k
    · rw [if_pos k] at h'; exact absurd h' k
  have hb : treeErr b = 0 := by
    rw [if_neg (by simp [ha])] at h'
    rcases Classical.em (treeErr b = 0) with k | k
    · exact k
    · rw [if_pos k] at h'; exact absurd h' k
  rw [if_neg (by simp [ha]), if_neg (by simp [hb])] at h'
  have hs := atoms_append.1 h'
  have fa := frm_ok.2 ⟨ha, hs.1⟩
  have fb := frm_ok.2 ⟨hb, hs.2⟩
  obtain ⟨t1, t2⟩ := tableP_len fa
  obtain ⟨u1, u2⟩ := tableP_len fb
  refine ⟨fa, fb, ?_⟩
  have e1 : alikeB a b ss = (tabB (evL a) ss == tabB (evL b) ss) := by unfold alikeB; rw [if_neg (by simp [h])]
  rw [e1, diaR, if_pos fa, diaR, if_pos fb, ← t1, ← u1, Bool.eq_iff_iff]
  simp only [beq_iff_eq]
  exact ⟨fun e => dia_inj ss.length t2 u2 e, fun e => by rw [e]⟩
set_option maxHeartbeats 6400000 in
theorem law_one (a b : List Nd) (A : Option Addr) (c : Nat) (B : Option Addr) (d : Nat) (ss : List (List UInt8)) (An : Option Addr) (cn : Nat) (w : World)
    (hc : a.length ≤ c) (hcm : c ≤ 9223372036854775807) (hok : NdOk a) (hsl : NdSl w w.heap.size A a) (hd : b.length ≤ d) (hdm : d ≤ 9223372036854775807) (hokb : NdOk b) (hslb : NdSl w w.heap.size B b)
    (hss : StrSl w w.heap.size An ss) (hn : ss.length ≤ cn) (hcn : cn ≤ 9223372036854775807) :
    Calls Try.prog 5 #[.slice A a.length c, .slice B b.length d, .slice An ss.length cn] w fun r w' => r = .returned (.bool true) ∧ RowKit.Below w.heap.size w w' := by
  have HA := Lib.hid (fun W (hW : RowKit.Below w.heap.size w W) => truth_Alike a b A c B d ss An cn W hc hcm hok ((hsl.below hW).more hW.size) hd hdm hokb ((hslb.below hW).more hW.size) ((hss.below hW).more hW.size) hn hcn)
  have H1 := Lib.hid (fun W (hW : RowKit.Below w.heap.size w W) => truth_Diagram a A c ss An cn W hc hcm hok ((hsl.below hW).more hW.size) ((hss.below hW).more hW.size) hn hcn)
  have H2 := Lib.hid (fun W (hW : RowKit.Below w.heap.size w W) => truth_Diagram b B d ss An cn W hd hdm hokb ((hslb.below hW).more hW.size) ((hss.below hW).more hW.size) hn hcn)
  have t0 := errV_zero
  by_cases hk : alikeErr a b ss = 0
  · obtain ⟨ha, hb, hv⟩ := one_plain hk
    have la := diaR_len a ss
    have lb := diaR_len b ss
    rw [hk] at HA
    rw [ha] at H1
    rw [hb] at H2
    rw [← hv] at HA
    clear ha hb hv hk hc hd hok hokb hsl hslb hss
    generalize diaR a ss = X at HA H1 la
    generalize diaR b ss = Y at HA H2 lb
    obtain ⟨q, hq⟩ : ∃ q, (X == Y) = q := ⟨_, rfl⟩
    have HC := Lib.hid (fun (A1 A2 : Option Addr) c1 c2 W (h1 : CeSl W W.heap.size A1 X) (h2 : CeSl W W.heap.size A2 Y) => law_cells X Y A1 A2 c1 c2 W h1 h2 (by omega) (by omega))
    rw [hq] at HA HC
    clear hq
    cases q
    all_goals
      go_enter Try.func5, Try.ntmps5
      go_wp2_with fail
      refine (law_tabled w).mono ?_
      rintro r w1 ⟨rfl, hb1⟩
      go_wp2_with fail
      refine (HA.out _ hb1).mono ?_
      rintro r w2 ⟨rfl, hb2⟩
      have hw2 := hb1.trans (hb2.mono hb1.size)
      clear hb1 hb2
      go_wp2_with fail
      refine (H1.out _ hw2).mono ?_
      rintro r w3 ⟨A3, c3, rfl, -, -, h3, hb3⟩
      have hw3 := hw2.trans (hb3.mono hw2.size)
      have HS3 := Lib.hid h3
      clear hb3 h3
      go_wp2_with fail
      refine (H2.out _ hw3).mono ?_
      rintro r w4 ⟨A4, c4, rfl, -, -, h4, hb4⟩
      have hw4 := hw3.trans (hb4.mono hw3.size)
      have HS4 := Lib.hid h4
      have HS34 := Lib.hid ((HS3.out.below hb4).more hb4.size)
      clear hb4 h4
      go_wp2_with fail
      refine (HC.out A3 A4 c3 c4 w4 HS34.out HS4.out).mono ?_
      rintro r w5 ⟨rfl, hb5⟩
      have hw5 := hw4.trans (hb5.mono hw4.size)
      clear hb5
      go_wp2_with fail
      go_ret
      exact ⟨rfl, hw5⟩
  · have tk : (alikeErr a b ss != 0) = true := by simp [hk]
    clear hk hok hokb hsl hslb hss H1 H2
    generalize alikeErr a b ss = k at HA tk
    generalize alikeB a b ss = q at HA
    go_enter Try.func5, Try.ntmps5
    go_wp2_with fail
    refine (law_tabled w).mono ?_
    rintro r w1 ⟨rfl, hb1⟩
    go_wp2_with fail
    refine (HA.out _ hb1).mono ?_
    rintro r w2 ⟨rfl, hb2⟩
    go_wp2_with fail
    go_ret
    exact ⟨rfl, hb1.trans (hb2.mono hb1.size)⟩
end Go.Proofs.Ytnhcjpmamgdeoaa
