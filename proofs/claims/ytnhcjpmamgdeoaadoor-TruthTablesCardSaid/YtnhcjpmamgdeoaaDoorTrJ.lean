/-
  THE WALK of (*truth.diagram).of.
-/
import Derived.Test.YtnhcjpmamgdeoaaDoorTrI
namespace Go.Proofs.YtnhcjpmamgdeoaaDoor
set_option maxRecDepth 100000
open Go.RowKit Go.Sort Go.Maps

theorem cellP_len {cs : List Ce} (h2 : 2 ≤ cs.length) {c : Ce} (hl : c.low < cs.length) : cs.length ≤ (cellP cs c).1.length ∧ (cellP cs c).1.length ≤ cs.length + 1 ∧ (cellP cs c).2 < (cellP cs c).1.length := by
  unfold cellP
  split
  · exact ⟨Nat.le_refl _, by simp, hl⟩
  · split
    · rename_i hk
      rw [List.length_drop] at hk
      exact ⟨Nat.le_refl _, by simp, by simp only; rw [show (cs.drop 2).idxOf c + 2 = 2 + (cs.drop 2).idxOf c from Nat.add_comm _ _]; omega⟩
    · simp
theorem dOf_len : ∀ (k : Nat) (cs : List Ce) (t : List Bool) (a : Int), 2 ≤ cs.length → cs.length ≤ (dOf k cs t a).1.length ∧ (dOf k cs t a).1.length + 1 ≤ cs.length + 2 ^ k ∧ (dOf k cs t a).2 < (dOf k cs t a).1.length
  | 0, cs, t, a, h => by
    rw [dOf]
    refine ⟨Nat.le_refl _, by simp, ?_⟩
    simp only
    split <;> omega
  | k + 1, cs, t, a, h => by
    have h1 := dOf_len k cs (t.take (2 ^ k)) (a + 1) h
    have h2 := dOf_len k (dOf k cs (t.take (2 ^ k)) (a + 1)).1 (t.drop (2 ^ k)) (a + 1) (by omega)
    have h3 := cellP_len (cs := (dOf k (dOf k cs (t.take (2 ^ k)) (a + 1)).1 (t.drop (2 ^ k)) (a + 1)).1) (by omega) (c := ⟨a, (dOf k cs (t.take (2 ^ k)) (a + 1)).2, (dOf k (dOf k cs (t.take (2 ^ k)) (a + 1)).1 (t.drop (2 ^ k)) (a + 1)).2⟩) (by simp only; omega)
    rw [dOf, Nat.pow_succ]
    omega
theorem boSl_take {w : World} {B : Nat} {A : Option Addr} {t : List Bool} (h : BoSl w B A t) (m : Nat) : BoSl w B A (t.take m) := fun hne => by
  obtain ⟨b, o, e, hb, hc⟩ := h (by rintro rfl; simp at hne)
  refine ⟨b, o, e, hb, fun i x hx => hc i x ?_⟩
  rw [List.getElem?_take] at hx
  split at hx
  · exact hx
  · cases hx
theorem boSl_drop {w : World} {B b o : Nat} {t : List Bool} (h : BoSl w B (some ⟨b, o, none⟩) t) (m : Nat) : BoSl w B (some ⟨b, o + m, none⟩) (t.drop m) := fun hne => by
  obtain ⟨b', o', e, hb, hc⟩ := h (by rintro rfl; simp at hne)
  injection e with e; injection e with e1 e2; subst e1 e2
  refine ⟨b, o + m, rfl, hb, fun i x hx => ?_⟩
  rw [List.getElem?_drop] at hx
  have := hc (m + i) x hx
  rw [show o + m + i * 1 = o + (m + i) * 1 from by omega]
  exact this
set_option maxHeartbeats 6400000 in
theorem dia_of (base db : Nat) : ∀ (k : Nat) (cs : List Ce) (t : List Bool) (b o c : Nat) (a : Int) (w : World), k ≤ 6 → t.length = 2 ^ k → t.length ≤ c → c ≤ 9223372036854775807 → BoSl w base (some ⟨b, o, none⟩) t → DiaAt base db cs w → 2 ≤ cs.length → cs.length + 2 ^ k ≤ 1000 → 0 ≤ a → a + k ≤ 100 → base ≤ w.heap.size →
    Calls Tryd.prog 21 #[.pointer (some ⟨db, 0, none⟩), .slice (some ⟨b, o, none⟩) t.length c, .int .i64 a] w fun r w' => r = .returned (.int .i64 (dOf k cs t a).2) ∧ DiaAt base db (dOf k cs t a).1 w' ∧ RowKit.Below base w w'
  | 0, cs, t, b, o, c, a, w, hk, ht, hc, hcm, hs, hD, h2, hl, ha, hak, hbw => by
    obtain ⟨x, rfl⟩ : ∃ x, t = [x] := by
      match t, ht with
      | [x], _ => exact ⟨x, rfl⟩
    obtain ⟨b', o', e, hb, d0⟩ := boSl_at hs (i := 0) (x := x) rfl
    injection e with e; injection e with e1 e2; subst e1 e2
    have HD := Lib.hid hD
    clear hD hs
    simp only [Nat.add_zero, List.length_cons, List.length_nil, Nat.zero_add] at d0 hc ⊢
    rw [dOf]
    cases x
    · go_enter Tryd.func21, Tryd.ntmps21
      go_wp2_with fail
      go_ret
      exact ⟨rfl, HD.out, RowKit.Below.refl _ _⟩
    · go_enter Tryd.func21, Tryd.ntmps21
      go_wp2_with fail
      go_ret
      exact ⟨rfl, HD.out, RowKit.Below.refl _ _⟩
  | k + 1, cs, t, b, o, c, a, w, hk, ht, hc, hcm, hs, hD, h2, hl, ha, hak, hbw => by
    have hp : 2 ^ k ≤ 32 := Nat.pow_le_pow_right (by omega) (show k ≤ 5 by omega)
    have hp1 : 1 ≤ 2 ^ k := Nat.one_le_two_pow
    rw [Nat.pow_succ] at ht hl
    have l1 : (t.take (2 ^ k)).length = 2 ^ k := by rw [List.length_take]; omega
    have l2 : (t.drop (2 ^ k)).length = 2 ^ k := by rw [List.length_drop]; omega
    have n1 := dOf_len k cs (t.take (2 ^ k)) (a + 1) h2
    have H1 := Lib.hid (dia_of base db k cs (t.take (2 ^ k)) b o c (a + 1) w (by omega) l1 (by omega) hcm (boSl_take hs _) hD h2 (by omega) (by omega) (by omega) hbw)
    rw [l1] at H1
    rw [dOf]
    generalize dOf k cs (t.take (2 ^ k)) (a + 1) = P1 at n1 H1 ⊢
    have n2 := dOf_len k P1.1 (t.drop (2 ^ k)) (a + 1) (by omega)
    have H2 := Lib.hid (fun W (hW : RowKit.Below base w W) (hD1 : DiaAt base db P1.1 W) => dia_of base db k P1.1 (t.drop (2 ^ k)) b (o + 2 ^ k) (c - 2 ^ k) (a + 1) W (by omega) l2 (by omega) (by omega) (boSl_drop (hs.below hW) _) hD1 (by omega) (by omega) (by omega) (by omega) (Nat.le_trans hbw hW.size))
    rw [l2] at H2
    generalize dOf k P1.1 (t.drop (2 ^ k)) (a + 1) = P2 at n2 H2 ⊢
    have n3 := cellP_len (cs := P2.1) (by omega) (c := ⟨a, P1.2, P2.2⟩) (by simp only; omega)
    have H3 := Lib.hid (fun W (hW : RowKit.Below base w W) (hD2 : DiaAt base db P2.1 W) => dia_cell base db P2.1 ⟨a, P1.2, P2.2⟩ W hD2 ⟨by simp only; omega, by simp only; omega, by simp only; omega, by simp only; omega⟩ (by omega) (by omega) (Nat.le_trans hbw hW.size))
    simp only at H3
    generalize cellP P2.1 ⟨a, P1.2, P2.2⟩ = P3 at n3 H3 ⊢
    generalize 2 ^ k = m at *
    obtain ⟨v1, hv1⟩ : ∃ v1, P1.2 = v1 := ⟨_, rfl⟩
    obtain ⟨v2, hv2⟩ : ∃ v2, P2.2 = v2 := ⟨_, rfl⟩
    obtain ⟨v3, hv3⟩ : ∃ v3, P3.2 = v3 := ⟨_, rfl⟩
    rw [hv1] at n1 H1 H3
    rw [hv2] at n2 H2 H3
    rw [hv3] at n3 H3 ⊢
    clear hv1 hv2 hv3 l1 l2 hs hD
    rw [ht] at hc ⊢
    clear ht
    have ta : IntKind.i64.wrap (a + 1) = a + 1 := by rw [IntKind.wrap_i64]; omega
    go_enter Tryd.func21, Tryd.ntmps21
    go_wp2_with fail
    refine H1.out.mono ?_
    rintro r w1 ⟨rfl, hd1, hb1⟩
    have HD1 := Lib.hid hd1
    clear hd1
    go_wp2_with fail
    rw [show m * 2 - m = m from by omega]
    refine (H2.out _ hb1 HD1.out).mono ?_
    rintro r w2 ⟨rfl, hd2, hb2⟩
    have HD2 := Lib.hid hd2
    have hw2 := hb1.trans hb2
    clear hd2
    go_wp2_with fail
    refine (H3.out _ hw2 HD2.out).mono ?_
    rintro r w3 ⟨rfl, hd3, hb3⟩
    go_wp2_with fail
    go_ret
    exact ⟨rfl, hd3, hw2.trans hb3⟩
end Go.Proofs.YtnhcjpmamgdeoaaDoor
