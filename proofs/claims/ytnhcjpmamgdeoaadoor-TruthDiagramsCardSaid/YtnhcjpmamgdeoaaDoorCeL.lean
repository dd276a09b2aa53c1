/-
  THE WALK of the law's comparison of cells.
-/
import Derived.Test.YtnhcjpmamgdeoaaDoorTrK
import Derived.Laws.StructEq
namespace Go.Proofs.YtnhcjpmamgdeoaaDoor
set_option maxRecDepth 100000
open Go.RowKit Go.Sort

theorem eq_ce (x y : Ce) (w : World) : (Op.equalIn 10000 51 (.agg #[.int .i64 x.atom, .int .i64 x.low, .int .i64 x.high]) (.agg #[.int .i64 y.atom, .int .i64 y.low, .int .i64 y.high])).run Tryd.prog w = .ok (x == y) w := by
  have u3 := Tryd.underlying3
  have a3 := Tryd.isAgg3
  have z3 := Tryd.sizeOf3
  have hS : Tryd.prog.underlying 51 = some (.struct (Tryd.prog.fieldsOf 51)) := by kernel_rfl
  have hp : Tryd.prog.stoodInHeld 51 = false := by kernel_rfl
  rw [show (10000 : Nat) = 9999 + 1 from rfl, run_equalIn_agg w 9999 51 _ _ hS hp]
  simp only [Program.fieldsOf, Tryd.underlying51]
  go_simp
  obtain ⟨a, l, u⟩ := x
  obtain ⟨a', l', u'⟩ := y
  by_cases h1 : a = a' <;> by_cases h2 : l = l' <;> by_cases h3 : u = u' <;> simp [h1, h2, h3, bne, Int.ofNat_inj]
theorem neq_ce (x y : Ce) (w : World) : (binOp .neq 51 (.agg #[.int .i64 x.atom, .int .i64 x.low, .int .i64 x.high]) (.agg #[.int .i64 y.atom, .int .i64 y.low, .int .i64 y.high])).run Tryd.prog w = .ok (.bool (x != y)) w := by
  rw [run_neq_struct, eq_ce]; rfl
theorem ceSl_at {w : World} {B : Nat} {A : Option Addr} {xs : List Ce} (h : CeSl w B A xs) {i : Nat} {x : Ce} (hx : xs[i]? = some x) : ∃ b o, A = some ⟨b, o, none⟩ ∧ b < B ∧ w.cell? ⟨b, o + i * 3, none⟩ = some (.int .i64 x.atom) ∧ w.cell? ⟨b, o + i * 3 + 1, none⟩ = some (.int .i64 x.low) ∧ w.cell? ⟨b, o + i * 3 + 2, none⟩ = some (.int .i64 x.high) := by
  obtain ⟨b, o, h1, h2, h3⟩ := h.at_ (List.getElem?_eq_some_iff.1 hx).1
  exact ⟨b, o, h1, h2, h3 i x hx 0 _ rfl, h3 i x hx 1 _ rfl, h3 i x hx 2 _ rfl⟩
set_option maxHeartbeats 6400000 in
theorem law_cells (xs ys : List Ce) (A1 A2 : Option Addr) (c1 c2 : Nat) (w : World) (h1 : CeSl w w.heap.size A1 xs) (h2 : CeSl w w.heap.size A2 ys) (l1 : xs.length ≤ 1000) (l2 : ys.length ≤ 1000) :
    Calls Tryd.prog 11 #[.slice A1 xs.length c1, .slice A2 ys.length c2] w fun r w' => r = .returned (.bool (xs == ys)) ∧ RowKit.Below w.heap.size w w' := by
  have H1 := Lib.hid h1
  have H2 := Lib.hid h2
  clear h1 h2
  obtain ⟨q, hq⟩ : ∃ q, (xs == ys) = q := ⟨_, rfl⟩
  rw [hq]
  have HQ := Lib.hid hq
  clear hq
  by_cases hlen : xs.length = ys.length
  · have tl : ((xs.length : Int) != (ys.length : Int)) = false := by simp [hlen]
    have HL := Lib.hid hlen
    have hle : xs.length ≤ ys.length := by omega
    clear hlen
    go_enter Tryd.func11, Tryd.ntmps11
    go_wp2_with fail
    go_loopw [5] (fun kk wr => ∃ k : Nat, kk = .int .i64 k ∧ k ≤ xs.length ∧ Hid (xs.take k = ys.take k) ∧ RowKit.Below w.heap.size w wr) (fun kk _ => xs.length - (intOf kk).toNat)
    case atStart => exact ⟨0, rfl, by omega, rfl, RowKit.Below.refl _ _⟩
    case round =>
      obtain ⟨k, rfl, hk, HK, hbr⟩ := hrel
      have hzr := hbr.size
      by_cases hlt : k < xs.length
      · obtain ⟨x, hx⟩ : ∃ x, xs[k]? = some x := ⟨_, List.getElem?_eq_getElem hlt⟩
        obtain ⟨y, hy⟩ : ∃ y, ys[k]? = some y := ⟨_, List.getElem?_eq_getElem (by omega)⟩
        obtain ⟨b, o, rfl, hb, d0, d1, d2⟩ := ceSl_at (H1.out.below hbr) hx
        obtain ⟨b', o', rfl, hb', f0, f1, f2⟩ := ceSl_at (H2.out.below hbr) hy
        have hlt2 : k < ys.length := by omega
        have HX := Lib.hid hx
        have HY := Lib.hid hy
        clear hx hy
        have i1 : 0 ≤ (k : Int) := by omega
        have i2 : (k : Int) < (xs.length : Int) := by omega
        have i3 : (k : Int) < (ys.length : Int) := by omega
        have heq : ∀ W, (binOp .neq 51 (.agg #[.int .i64 x.atom, .int .i64 x.low, .int .i64 x.high]) (.agg #[.int .i64 y.atom, .int .i64 y.low, .int .i64 y.high])).run Tryd.prog W = .ok (.bool (x != y)) W := fun W => neq_ce x y W
        have heq2 : ∀ W, (Op.equalIn 10000 51 (.agg #[.int .i64 x.atom, .int .i64 x.low, .int .i64 x.high]) (.agg #[.int .i64 y.atom, .int .i64 y.low, .int .i64 y.high])).run Tryd.prog W = .ok (x == y) W := fun W => eq_ce x y W
        by_cases hxy : x = y
        · have HK2 : Hid (xs.take (k + 1) = ys.take (k + 1)) := by show _ = _; rw [List.take_add_one, List.take_add_one, HX.out, HY.out, HK.out, hxy]
          rw [show (x != y) = false from by simp [hxy]] at heq
          rw [show (x == y) = true from by simp [hxy]] at heq2
          clear hxy
          go_wp2_with fail
          go_quiet (fail)
          go_wp2_with fail
          exact ⟨⟨k + 1, by go_num, by omega, HK2, below_drewN hbr _⟩, by simp [intOf]; omega⟩
        · have hv : Hid (q = false) := by
            show _ = _
            rw [← HQ.out]
            apply Bool.eq_false_iff.2
            intro h
            have h' : xs = ys := by simpa using h
            have := HX.out
            rw [h', HY.out] at this
            injection this with this
            exact hxy this.symm
          rw [show (x != y) = true from by simp [hxy]] at heq
          rw [show (x == y) = false from by simp [hxy]] at heq2
          clear hxy
          go_wp2_with fail
          go_quiet (fail)
          go_wp2_with fail
          go_ret
          rw [hv.out]
          exact ⟨rfl, below_drewN hbr _⟩
      · have hv : Hid (q = true) := by
          show _ = _
          rw [← HQ.out]
          have := HK.out
          rw [List.take_of_length_le (by omega), List.take_of_length_le (by rw [← HL.out]; omega)] at this
          simpa using this
        go_wp2_with fail
        go_ret
        rw [hv.out]
        exact ⟨rfl, hbr⟩
  · have tl : ((xs.length : Int) != (ys.length : Int)) = true := by simp; omega
    have hv : Hid (q = false) := by
      show _ = _
      rw [← HQ.out]
      apply Bool.eq_false_iff.2
      intro h
      have h' : xs = ys := by simpa using h
      exact hlen (by rw [h'])
    clear hlen
    go_enter Tryd.func11, Tryd.ntmps11
    go_wp2_with fail
    go_ret
    rw [hv.out]
    exact ⟨rfl, RowKit.Below.refl _ _⟩

theorem tableP_len {e : List Nd} {ss : List (List UInt8)} (h : frmErr e ss = 0) : (tableP e ss).1 = tabB (evL e) ss ∧ (tableP e ss).1.length = 2 ^ ss.length := by
  unfold tableP
  rw [if_neg (by simp [h])]
  exact ⟨rfl, tabB_len _ _⟩
theorem diaR_len (e : List Nd) (ss : List (List UInt8)) : (diaR e ss).length ≤ 100 := by
  unfold diaR
  split
  · rename_i h
    have h6 := (atoms_ok.1 (frm_ok.1 h).2).1
    have hp : 2 ^ ss.length ≤ 64 := Nat.pow_le_pow_right (by omega) h6
    have n1 := dOf_len ss.length ceBase (tableP e ss).1 0 (by simp [ceBase])
    have hb : ceBase.length = 2 := rfl
    unfold diaP
    split
    · rw [List.length_append, List.length_cons, List.length_nil]; omega
    · omega
  · simp
end Go.Proofs.YtnhcjpmamgdeoaaDoor
