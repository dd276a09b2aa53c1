/-
  THE WALKS: slices.Equal of bools.
-/
import Derived.Test.YtnhcjpmamgdeoaaDoorTrC
import Derived.Test.YtnhcjpmamgdeoaaDoorCat
import Derived.BigQuiet
namespace Go.Proofs.YtnhcjpmamgdeoaaDoor
open Go.RowKit Go.Sort Go.Shelf

theorem boSl_at {w : World} {B : Nat} {A : Option Addr} {xs : List Bool} (h : BoSl w B A xs) {i : Nat} {x : Bool} (hx : xs[i]? = some x) : ∃ b o, A = some ⟨b, o, none⟩ ∧ b < B ∧ w.cell? ⟨b, o + i, none⟩ = some (.bool x) := by
  obtain ⟨b, o, h1, h2, h3⟩ := h.at_ (List.getElem?_eq_some_iff.1 hx).1
  have := h3 i x hx 0 _ rfl
  rw [Nat.mul_one, Nat.add_zero] at this
  exact ⟨b, o, h1, h2, this⟩
set_option maxRecDepth 100000 in
set_option maxHeartbeats 3200000 in
theorem equal_bools (xs ys : List Bool) (A1 A2 : Option Addr) (c1 c2 : Nat) (w : World) (h1 : BoSl w w.heap.size A1 xs) (h2 : BoSl w w.heap.size A2 ys) (l1 : xs.length ≤ 1000) (l2 : ys.length ≤ 1000) :
    Calls Tryd.prog 30 #[.slice A1 xs.length c1, .slice A2 ys.length c2] w fun r w' => r = .returned (.bool (xs == ys)) ∧ RowKit.Below w.heap.size w w' := by
  have H1 := Lib.hid h1
  have H2 := Lib.hid h2
  clear h1 h2
  obtain ⟨q, hq⟩ : ∃ q, (xs == ys) = q := ⟨_, rfl⟩
  rw [hq]
  have HQ := Lib.hid hq
  clear hq
  by_cases hlen : xs.length = ys.length
  · have tl : ((xs.length : Int) != (ys.length : Int)) = false := by simp [hlen]
    have HL := Lib.hid hlen
    have hle : xs.length ≤ ys.length := by omega
    clear hlen
    go_enter Tryd.func30, Tryd.ntmps30
    go_wp2_with fail
    go_loopw [13] (fun kk wr => ∃ k : Nat, kk = .int .i64 k ∧ k ≤ xs.length ∧ Hid (xs.take k = ys.take k) ∧ RowKit.Below w.heap.size w wr) (fun kk _ => xs.length - (intOf kk).toNat)
    case atStart => exact ⟨0, rfl, by omega, rfl, RowKit.Below.refl _ _⟩
    case round =>
      obtain ⟨k, rfl, hk, HK, hbr⟩ := hrel
      have hzr := hbr.size
      by_cases hlt : k < xs.length
      · obtain ⟨x, hx⟩ : ∃ x, xs[k]? = some x := ⟨_, List.getElem?_eq_getElem hlt⟩
        obtain ⟨y, hy⟩ : ∃ y, ys[k]? = some y := ⟨_, List.getElem?_eq_getElem (by omega)⟩
        obtain ⟨b, o, rfl, hb, d0⟩ := boSl_at (H1.out.below hbr) hx
        obtain ⟨b', o', rfl, hb', d1⟩ := boSl_at (H2.out.below hbr) hy
        have hbw : b < wr.heap.size := by omega
        have hbw' : b' < wr.heap.size := by omega
        have hlt2 : k < ys.length := by omega
        have HX := Lib.hid hx
        have HY := Lib.hid hy
        clear hx hy
        have i1 : 0 ≤ (k : Int) := by omega
        have i2 : (k : Int) < (xs.length : Int) := by omega
        have i3 : (k : Int) < (ys.length : Int) := by omega
        cases x <;> cases y
        · have HK2 : Hid (xs.take (k + 1) = ys.take (k + 1)) := by show _ = _; rw [List.take_add_one, List.take_add_one, HX.out, HY.out, HK.out]
          go_wp2_with fail
          go_quiet (fail)
          go_wp2_with fail
          exact ⟨⟨k + 1, by go_num, by omega, HK2, below_drewN hbr _⟩, by simp [intOf]; omega⟩
        · have hv : Hid (q = false) := by
            show _ = _
            rw [← HQ.out]
            apply Bool.eq_false_iff.2
            intro h
            have h' : xs = ys := by simpa using h
            have := HX.out
            rw [h', HY.out] at this
            injection this with this
            cases this
          go_wp2_with fail
          go_quiet (fail)
          go_wp2_with fail
          go_ret
          rw [hv.out]
          exact ⟨rfl, below_drewN hbr _⟩
        · have hv : Hid (q = false) := by
            show _ = _
            rw [← HQ.out]
            apply Bool.eq_false_iff.2
            intro h
            have h' : xs = ys := by simpa using h
            have := HX.out
            rw [h', HY.out] at this
            injection this with this
            cases this
          go_wp2_with fail
          go_quiet (fail)
          go_wp2_with fail
          go_ret
          rw [hv.out]
          exact ⟨rfl, below_drewN hbr _⟩
        · have HK2 : Hid (xs.take (k + 1) = ys.take (k + 1)) := by show _ = _; rw [List.take_add_one, List.take_add_one, HX.out, HY.out, HK.out]
          go_wp2_with fail
          go_quiet (fail)
          go_wp2_with fail
          exact ⟨⟨k + 1, by go_num, by omega, HK2, below_drewN hbr _⟩, by simp [intOf]; omega⟩
      · have hv : Hid (q = true) := by
          show _ = _
          rw [← HQ.out]
          have := HK.out
          rw [List.take_of_length_le (by omega), List.take_of_length_le (by rw [← HL.out]; omega)] at this
          simpa using this
        go_wp2_with fail
        go_ret
        rw [hv.out]
        exact ⟨rfl, hbr⟩
  · have tl : ((xs.length : Int) != (ys.length : Int)) = true := by simp; omega
    have hv : Hid (q = false) := by
      show _ = _
      rw [← HQ.out]
      apply Bool.eq_false_iff.2
      intro h
      have h' : xs = ys := by simpa using h
      exact hlen (by rw [h'])
    clear hlen
    go_enter Tryd.func30, Tryd.ntmps30
    go_wp2_with fail
    go_ret
    rw [hv.out]
    exact ⟨rfl, RowKit.Below.refl _ _⟩
end Go.Proofs.YtnhcjpmamgdeoaaDoor
