/-
  THE WALKS of the reference: Spelling.
-/
import Derived.Test.YtbommoefpekalaaGreatDoorRef14
import Derived.Test.YtbommoefpekalaaGreatDoorSpell2
namespace Go.Proofs.YtbommoefpekalaaGreatDoor
open Go.RowKit

theorem joinP_snoc : ∀ (l : List (List UInt8)) (y : List UInt8), l ≠ [] → joinP (l ++ [y]) = joinP l ++ 32 :: y
  | [], _, h => absurd rfl h
  | [x], y, _ => by rw [List.singleton_append, joinP_cons, joinP_one, joinP_one]
  | x :: z :: r, y, _ => by
    rw [List.cons_append, List.cons_append, joinP_cons, joinP_cons]
    have := joinP_snoc (z :: r) y (by simp)
    rw [List.cons_append] at this
    rw [this]; simp
theorem bs_cat (a b : List UInt8) : bsOf a ++ bsOf b = bsOf (a ++ b) := by
  refine bs_eq ?_
  rw [ByteArray.toList_eq, ByteArray.data_append, Array.toList_append]; rfl
set_option maxRecDepth 100000 in
set_option maxHeartbeats 3200000 in
theorem r2_Spelling (xs : List Tk) (A : Option Addr) (c : Nat) (w : World) (hs : TkSl w w.heap.size A xs) (hl : xs.length ≤ 9223372036854775807) (hz : ∀ x ∈ xs, x.s.size ≤ 140737488351232) :
    Calls Tryz.prog 8 #[.slice A xs.length c] w fun e w' => e = .returned (.tuple #[encStr (spellP xs).1, .int .i64 (spellP xs).2]) ∧ Below w.heap.size w w' := by
  obtain ⟨q, hq⟩ : ∃ q, spellP xs = q := ⟨_, rfl⟩
  rw [hq]
  have HS := Lib.hid hs
  have HZ := Lib.hid hz
  clear hs hz
  by_cases h3 : 300 < xs.length
  · have HQ : Hid (q = ([], 4)) := by show _ = _; rw [← hq, spellP, if_pos h3]
    clear hq
    go_enter Tryz.func8, Tryz.ntmps8
    go_wp2_with fail
    go_ret2
    rw [HQ.out]
    exact ⟨rfl, Below.refl _ _⟩
  · go_enter Tryz.func8, Tryz.ntmps8
    have HQ := Lib.hid hq
    clear hq
    go_wp2_with fail
    go_loopw [4, 5] (fun vv ii wr => ∃ (k : Nat) (o : ByteArray), ii = .int .i64 k ∧ vv = .string o ∧ k ≤ xs.length ∧ Hid (o = bsOf (joinP ((xs.take k).map sp1))) ∧ Hid ((xs.take k).all (fun x => (speltP x).2) = true) ∧ Below w.heap.size w wr) (fun _ ii _ => xs.length - (intOf ii).toNat)
    case atStart => exact ⟨0, _, rfl, rfl, by omega, rfl, by simp [Hid], Below.refl _ _⟩
    case round =>
      obtain ⟨k, ot, rfl, rfl, hk, HO, HA, hb⟩ := hrel
      by_cases hlt : k < xs.length
      · obtain ⟨x, hx⟩ : ∃ x, xs[k]? = some x := ⟨_, List.getElem?_eq_getElem hlt⟩
        obtain ⟨b, o, rfl, hbb, ⟨d0, d1, d2⟩⟩ := tkSl_at (HS.out.below hb) hx
        have hsz := hb.size
        have hxz := HZ.out x (List.mem_of_getElem? hx)
        have hosz : ot.size ≤ 300 * 901 := by
          rw [HO.out, bsOf_sz]
          have h := joinP_len 900 ((xs.take k).map sp1) (fun l hl => by obtain ⟨x, _, rfl⟩ := List.mem_map.1 hl; exact speltP_len x)
          rw [List.length_map, List.length_take] at h
          exact Nat.le_trans h (Nat.mul_le_mul_right _ (by omega))
        have HX := Lib.hid hx
        clear hx
        have HP := Lib.hid (fun W => r2_Spelt x W hxz)
        cases his : (speltP x).2 with
        | false =>
          have HR := Lib.hid his
          clear his
          go_wp2_with fail
          refine Calls.mono (HP.out _) ?_
          rintro e w1 ⟨tx, rfl, _, hb1⟩
          rw [HR.out]
          go_wp2_with fail
          go_ret2
          have hq : q = ([], 1) := by
            rw [← HQ.out, spellP, if_neg h3, if_pos]
            rw [← Bool.not_eq_true, List.all_eq_true]
            intro h
            have := h x (List.mem_of_getElem? HX.out)
            rw [HR.out] at this
            cases this
          rw [hq]
          exact ⟨rfl, hb.trans (hb1.mono hsz)⟩
        | true =>
          have HR := Lib.hid his
          clear his
          by_cases hk0 : k = 0
          · have hk1 : ¬ 0 < (k : Int) := by omega
            have HK0 := Lib.hid hk0
            clear hk0
            go_wp2_with fail
            refine Calls.mono (HP.out _) ?_
            rintro e w1 ⟨tx, rfl, htx, hb1⟩
            rw [HR.out, encStr_bs]
            have HTX : Hid (tx = sp1 x) := htx HR.out
            have htz : (bsOf tx).size ≤ 900 := by rw [HTX.out, bsOf_sz]; exact speltP_len x
            clear htx
            have hbw1 : Below w.heap.size w w1 := hb.trans (hb1.mono hsz)
            clear hb1
            go_wp2_with fail
            refine ⟨⟨k + 1, _, by go_num, rfl, by omega, ?_, all_snoc _ _ _ _ HA.out HX.out HR.out, hbw1⟩, by simp [intOf]; omega⟩
            show _ = _
            rw [HO.out, HTX.out, bs_cat, map_snoc sp1 xs k x HX.out, HK0.out]
            simp [joinP_nil, joinP_one]
          · have hk1 : 0 < k := by omega
            go_wp2_with fail
            refine Calls.mono (HP.out _) ?_
            rintro e w1 ⟨tx, rfl, htx, hb1⟩
            rw [HR.out, encStr_bs]
            have HTX : Hid (tx = sp1 x) := htx HR.out
            have htz : (bsOf tx).size ≤ 900 := by rw [HTX.out, bsOf_sz]; exact speltP_len x
            clear htx
            have hbw1 : Below w.heap.size w w1 := hb.trans (hb1.mono hsz)
            clear hb1
            go_wp2_with fail
            refine ⟨⟨k + 1, _, by go_num, rfl, by omega, ?_, all_snoc _ _ _ _ HA.out HX.out HR.out, hbw1⟩, by simp [intOf]; omega⟩
            show _ = _
            rw [HO.out, HTX.out, show (⟨#[32]⟩ : ByteArray) = bsOf [32] from rfl, bs_cat, bs_cat, map_snoc sp1 xs k x HX.out, joinP_snoc _ _ (by
              intro h
              have := congrArg List.length h
              rw [List.length_map, List.length_take, List.length_nil] at this
              omega)]
            simp
      · have hks : k = xs.length := by omega
        subst hks
        have hall : xs.all (fun x => (speltP x).2) = true := by have := HA.out; rwa [List.take_of_length_le (Nat.le_refl _)] at this
        have ho : ot = bsOf (joinP (xs.map sp1)) := by rw [HO.out, List.take_of_length_le (Nat.le_refl _)]
        have hoz : ot.size = (joinP (xs.map sp1)).length := by rw [ho, bsOf_sz]
        have hqv : q = if 900 < ot.size then ([], 4) else (joinP (xs.map sp1), 0) := by
          rw [← HQ.out, spellP, if_neg h3, if_neg (by rw [hall]; simp), hoz]; rfl
        have HQV := Lib.hid hqv
        have HOE := Lib.hid ho
        clear hqv hall ho hoz HO
        by_cases h9 : 900 < ot.size
        · go_wp2_with fail
          go_ret2
          rw [HQV.out, if_pos h9]
          exact ⟨rfl, hb⟩
        · go_wp2_with fail
          go_ret2
          rw [HQV.out, if_neg h9, encStr_bs, ← HOE.out]
          exact ⟨rfl, hb⟩
end Go.Proofs.YtbommoefpekalaaGreatDoor
