/-
  THE WALK of the law WordJoins.
-/
import Derived.Test.YtcghjnpllobdmaaDoorWord8
namespace Go.Proofs.YtcghjnpllobdmaaDoor
open Go.RowKit

theorem fact_joins : readP ⟨#[49, 50, 32, 97, 98]⟩ = ([⟨2, bsOf [49, 50], 0⟩, ⟨1, bsOf [97, 98], 3⟩], 0, 0) := by
  rw [readP_R, ByteArray.toList_mk]; rfl
theorem lineR_at (n : Nat) : ∀ (f : Nat) (l : List UInt8) (i : Nat) (acc : List Tk), l.length ≤ f → i + l.length = n → (∀ x ∈ acc, 0 ≤ x.at_ ∧ x.at_ ≤ n) → ∀ x ∈ (lineR l i acc).1, 0 ≤ x.at_ ∧ x.at_ ≤ n := by
  intro f
  induction f with
  | zero =>
    intro l i acc hl hn ha
    have : l = [] := List.eq_nil_of_length_eq_zero (by omega)
    subst this
    rw [lineR_nil]; exact ha
  | succ f ih =>
    intro l i acc hl hn ha
    cases l with
    | nil => rw [lineR_nil]; exact ha
    | cons c r =>
      simp only [List.length_cons] at hl hn
      by_cases hc : c = 32
      · subst hc
        rw [lineR_blank]
        exact ih r _ _ (by omega) (by omega) ha
      · cases hw : wordP (c :: r) with
        | bad k => rw [lineR_bad hc hw]; intro x hx; cases hx
        | ok kind t m =>
          have hm := wordP_n hw
          simp only [List.length_cons] at hm
          rw [lineR_ok hc hw]
          split
          · intro x hx; cases hx
          · refine ih _ _ _ (by rw [List.length_drop, List.length_cons]; omega) (by rw [List.length_drop, List.length_cons]; omega) fun x hx => ?_
            rcases List.mem_append.1 hx with hx | hx
            · exact ha x hx
            · rw [List.mem_singleton] at hx; subst hx; simp only; omega
theorem readP_at (s : ByteArray) : ∀ x ∈ (readP s).1, 0 ≤ x.at_ ∧ x.at_ ≤ s.size := by
  rw [readP_R]
  split
  · intro x hx; cases hx
  · exact lineR_at s.size _ _ _ _ (Nat.le_refl _) (by rw [toList_len]; omega) (fun x hx => by cases hx)
theorem lineR_len : ∀ (f : Nat) (l : List UInt8) (i : Nat) (acc : List Tk), l.length ≤ f → acc.length ≤ 300 → (lineR l i acc).1.length ≤ 300 := by
  intro f
  induction f with
  | zero =>
    intro l i acc hl ha
    have : l = [] := List.eq_nil_of_length_eq_zero (by omega)
    subst this
    rw [lineR_nil]; exact ha
  | succ f ih =>
    intro l i acc hl ha
    cases l with
    | nil => rw [lineR_nil]; exact ha
    | cons c r =>
      simp only [List.length_cons] at hl
      by_cases hc : c = 32
      · subst hc
        rw [lineR_blank]
        exact ih r _ _ (by omega) ha
      · cases hw : wordP (c :: r) with
        | bad k => rw [lineR_bad hc hw]; simp
        | ok kind t m =>
          have hm := wordP_n hw
          simp only [List.length_cons] at hm
          rw [lineR_ok hc hw]
          split
          · simp
          · exact ih _ _ _ (by rw [List.length_drop, List.length_cons]; omega) (by rw [List.length_append, List.length_singleton]; omega)
theorem readP_len (s : ByteArray) : (readP s).1.length ≤ 300 := by
  rw [readP_R]
  split
  · simp
  · exact lineR_len _ _ _ _ (Nat.le_refl _) (by simp)

theorem run_at_tok (b o n c k : Nat) (hk : k < n) (W : World) : (Instr.indexAt 22 (.slice (some ⟨b, o, none⟩) n c) (.int .i64 (k : Int))).run Tryd.prog W = .ok (.pointer (some ⟨b, o + k * 3, none⟩)) W := by
  go_simp
theorem cat_list (s t : ByteArray) : (s ++ ⟨#[32]⟩ ++ t).toList = s.toList ++ 32 :: t.toList := by
  simp only [ByteArray.toList_eq, ByteArray.data_append, Array.toList_append]
  simp
theorem cat_size (s t : ByteArray) : (s ++ ⟨#[32]⟩ ++ t).size = s.size + t.size + 1 := by
  rw [← toList_len, cat_list, List.length_append, List.length_cons, toList_len, toList_len]; omega
set_option maxRecDepth 100000 in
set_option maxHeartbeats 8000000 in
theorem law_joins (s t : ByteArray) (w : World) (hs : s.size ≤ 140737488351232) (ht : t.size ≤ 140737488351232) :
    Calls Tryd.prog 3 #[.string s, .string t] w fun r w' => r = .returned (.bool true) ∧ Below w.heap.size w w' := by
  obtain ⟨xs, a1, k1, hx⟩ : ∃ xs a k, readP s = (xs, a, k) := ⟨_, _, _, rfl⟩
  obtain ⟨ys, a2, k2, hy⟩ : ∃ xs a k, readP t = (xs, a, k) := ⟨_, _, _, rfl⟩
  have hxl : xs.length ≤ 300 := by have := readP_len s; rwa [hx] at this
  have hyl : ys.length ≤ 300 := by have := readP_len t; rwa [hy] at this
  have HRS := Lib.hid (fun W => word_Read s W hs)
  have HRT := Lib.hid (fun W => word_Read t W ht)
  rw [hx] at HRS
  rw [hy] at HRT
  have HX := Lib.hid hx
  have HY := Lib.hid hy
  have hf := word_Read ⟨#[49, 50, 32, 97, 98]⟩ w (by decide)
  rw [fact_joins] at hf
  have HF := Lib.hid hf
  clear hx hy hf
  go_enter Tryd.func3, Tryd.ntmps3
  go_wp2_with fail
  refine Calls.mono HF.out ?_
  rintro r w1 ⟨A1, c1, rfl, _, _, hs1, hb1⟩
  obtain ⟨b1, o1, hA, hbl1, hat⟩ := tkSl_at hs1 (i := 1) (x := ⟨1, bsOf [97, 98], 3⟩) rfl
  subst hA
  obtain ⟨d0, d1, d2⟩ := hat
  clear hs1
  go_wp2_with fail
  refine Calls.mono (HRS.out _) ?_
  rintro r w2 ⟨A2, c2, rfl, _, _, hs2, hb2⟩
  have hw2 : Below w.heap.size w w2 := hb1.trans (hb2.mono hb1.size)
  have HS2 := Lib.hid hs2
  clear hs2 hb1 hb2 d0 d1 d2 hbl1
  go_wp2_with fail
  refine Calls.mono (HRT.out _) ?_
  rintro r w3 ⟨A3, c3, rfl, _, _, hs3, hb3⟩
  have hw3 : Below w.heap.size w w3 := hw2.trans (hb3.mono hw2.size)
  have HS2' := Lib.hid (HS2.out.later hb3)
  have HS3 := Lib.hid hs3
  clear hs3 hb3 hw2 HS2
  by_cases hk1 : k1 = 0
  · have e1 : (k1 != 0) = false := by simp [hk1]
    by_cases hk2 : k2 = 0
    · have e2 : (k2 != 0) = false := by simp [hk2]
      subst hk1 hk2
      by_cases h9 : 900 < (s.size : Int) + t.size + 1
      · go_wp2_with fail
        go_ret
        exact ⟨rfl, hw3⟩
      · by_cases h3 : 300 < (xs.length : Int) + ys.length
        · go_wp2_with fail
          go_ret
          exact ⟨rfl, hw3⟩
        · have hz := readP_join HX.out HY.out (cat_list s t) (by omega) (by omega)
          have HRZ := Lib.hid (fun W => word_Read (s ++ ⟨#[32]⟩ ++ t) W (by rw [cat_size]; omega))
          rw [hz] at HRZ
          have HYA : Hid (∀ y ∈ ys, 0 ≤ y.at_ ∧ y.at_ ≤ t.size) := by
            have := readP_at t
            rw [HY.out] at this; exact this
          obtain ⟨zs, hzs⟩ : ∃ zs, xs ++ ys.map (Tk.shift (s.size + 1)) = zs := ⟨_, rfl⟩
          rw [hzs] at HRZ
          have hzl : zs.length = xs.length + ys.length := by rw [← hzs, List.length_append, List.length_map]
          have HZS := Lib.hid hzs
          have HZL := Lib.hid hzl
          have hzne : ((zs.length : Int) != (xs.length : Int) + (ys.length : Int)) = false := by rw [hzl]; simp
          clear hz hzs hzl HRS HRT HF
          go_wp2_with fail
          refine Calls.mono (HRZ.out _) ?_
          rintro r w4 ⟨A4, c4, rfl, _, _, hs4, hb4⟩
          have hw4 : Below w.heap.size w w4 := hw3.trans (hb4.mono hw3.size)
          have HS2 := Lib.hid (HS2'.out.later hb4)
          have HS3' := Lib.hid (HS3.out.later hb4)
          have HS4 := Lib.hid hs4
          clear hs4 hb4 hw3 HS2' HS3 HRZ
          go_wp2_with fail
          go_loopw [17] (fun ii wr => ∃ k : Nat, ii = .int .i64 k ∧ k ≤ xs.length ∧ Below w4.heap.size w4 wr) (fun ii _ => xs.length - (intOf ii).toNat)
          case atStart => exact ⟨0, rfl, by omega, Below.refl _ _⟩
          case round =>
            obtain ⟨k, rfl, hk, hbr⟩ := hrel
            by_cases hlt : k < xs.length
            · obtain ⟨x, hx⟩ : ∃ x, xs[k]? = some x := ⟨_, List.getElem?_eq_getElem hlt⟩
              have hz : zs[k]? = some x := by rw [← HZS.out, List.getElem?_append_left hlt, hx]
              obtain ⟨bx, ox, rfl, hbx, hax⟩ := tkSl_at (HS2.out.below hbr) hx
              obtain ⟨bz, oz, rfl, hbz, haz⟩ := tkSl_at (HS4.out.below hbr) hz
              obtain ⟨d0, d1, d2⟩ := hax
              obtain ⟨f0, f1, f2⟩ := haz
              have hkz : k < zs.length := by rw [HZL.out]; omega
              clear hx hz
              go_wp2_with fail
              go_quiet (fail)
              go_wp2_with fail
              exact ⟨⟨k + 1, by go_num, by omega, below_drewN hbr _⟩, by simp [intOf]; omega⟩
            · obtain ⟨wo, rfl⟩ : ∃ wo : World, wo = wr := ⟨_, rfl⟩
              have hwo : Below w.heap.size w wo := hw4.trans (hbr.mono hw4.size)
              go_wp2_with fail
              go_loopw [18] (fun ii wr => ∃ j : Nat, ii = .int .i64 j ∧ j ≤ ys.length ∧ Below w4.heap.size w4 wr) (fun ii _ => ys.length - (intOf ii).toNat)
              case atStart => exact ⟨0, rfl, by omega, hbr⟩
              case round =>
                obtain ⟨j, rfl, hj, hbi⟩ := hrel
                by_cases hjt : j < ys.length
                · obtain ⟨y, hy⟩ : ∃ y, ys[j]? = some y := ⟨_, List.getElem?_eq_getElem hjt⟩
                  have hz : zs[xs.length + j]? = some (y.shift (s.size + 1)) := by
                    rw [← HZS.out, List.getElem?_append_right (by omega), show xs.length + j - xs.length = j from by omega, List.getElem?_map, hy]; rfl
                  obtain ⟨by_, oy, rfl, hby, hay⟩ := tkSl_at (HS3'.out.below hbi) hy
                  obtain ⟨bz, oz, rfl, hbz, haz⟩ := tkSl_at (HS4.out.below hbi) hz
                  obtain ⟨d0, d1, d2⟩ := hay
                  obtain ⟨g0, g1, g2⟩ := haz
                  have hya := HYA.out y (List.mem_of_getElem? hy)
                  have hkz : xs.length + j < zs.length := by rw [HZL.out]; omega
                  have hsum : IntKind.i64.wrap ((xs.length : Int) + j) = (xs.length : Int) + j := by rw [IntKind.wrap_i64]; omega
                  have hia : ∀ W, (Instr.indexAt 22 (.slice (some ⟨bz, oz, none⟩) zs.length c4) (.int .i64 ((xs.length : Int) + j))).run Tryd.prog W = .ok (.pointer (some ⟨bz, oz + (xs.length + j) * 3, none⟩)) W := fun W => by
                    rw [show (xs.length : Int) + j = ((xs.length + j : Nat) : Int) from by omega]; exact run_at_tok bz oz zs.length c4 (xs.length + j) hkz W
                  clear hy hz
                  have f0 : wr.cell? ⟨bz, oz + (xs.length + j) * 3, none⟩ = some (.int .i64 y.kind) := g0
                  have f1 : wr.cell? ⟨bz, oz + (xs.length + j) * 3 + 1, none⟩ = some (.string y.s) := g1
                  have f2 : wr.cell? ⟨bz, oz + (xs.length + j) * 3 + 2, none⟩ = some (.int .i64 (y.at_ + ((s.size : Int) + 1))) := g2
                  clear g0 g1 g2
                  have hbzw : bz < wr.heap.size := Nat.lt_of_lt_of_le hbz hbi.size
                  have hbyw : by_ < wr.heap.size := Nat.lt_of_lt_of_le hby hbi.size
                  go_wp2_with fail
                  go_quiet (fail)
                  clear hsum hia
                  go_wp2_with fail
                  exact ⟨⟨j + 1, by go_num, by omega, below_drewN (hbi.alloc hbi.size _) _⟩, by simp [intOf]; omega⟩
                · go_wp2_with fail
                  go_ret
                  exact ⟨rfl, hw4.trans (hbi.mono hw4.size)⟩
    · have e2 : (k2 != 0) = true := by simp [hk2]
      go_wp2_with fail
      go_ret
      exact ⟨rfl, hw3⟩
  · have e1 : (k1 != 0) = true := by simp [hk1]
    go_wp2_with fail
    go_ret
    exact ⟨rfl, hw3⟩
end Go.Proofs.YtcghjnpllobdmaaDoor
