/-
  THE WALKS of the reference: words: Word.
-/
import Derived.Test.YtbommoefpekalaaGreatDoorRef8
import Derived.Test.YtbommoefpekalaaGreatDoorWPlain3
namespace Go.Proofs.YtbommoefpekalaaGreatDoor
open Go.RowKit

theorem wdV_ok {i j n : Nat} {k : Int} {x : ByteArray} {T : List UInt8} (hx : x = bsOf T) (hj : j = i + n) : Ending.returned (.tuple #[.agg #[.int .i64 k, .string x, .int .i64 i], .int .i64 j, .int .i64 0]) = Ending.returned (wdV i (.ok k T n)) := by
  subst hx hj; rfl
theorem span_take (p : UInt8 → Bool) (l : List UInt8) : l.takeWhile p = l.take (l.takeWhile p).length := List.prefix_iff_eq_take.1 (List.takeWhile_prefix p)
theorem span_slice (p : UInt8 → Bool) (s : ByteArray) {i f j : Nat} (hj : j = i + ((s.toList.drop i).takeWhile p).length) (hf : i ≤ f) (hfj : f ≤ j) : (s.extract f j).toList = ((s.toList.drop i).takeWhile p).drop (f - i) := by
  rw [ByteArray.toList_eq, Lib.extract_data, ← ByteArray.toList_eq, span_take p (s.toList.drop i), List.drop_take, List.drop_drop, show i + (f - i) = f from by omega]
  congr 1; omega
theorem span_get (p : UInt8 → Bool) (s : ByteArray) {i m : Nat} (hm : m < ((s.toList.drop i).takeWhile p).length) : ((s.toList.drop i).takeWhile p)[m]? = s.toList[i + m]? := by
  rw [span_take p (s.toList.drop i), List.getElem?_take, if_pos hm, List.getElem?_drop]

set_option maxRecDepth 100000 in
set_option maxHeartbeats 3200000 in
theorem r2_Word_num (s : ByteArray) (i : Nat) (w : World) (hs : s.size ≤ 140737488351232) (hi : i < s.size) (hd : digitI (s[i].toNat : Int) = true) :
    Calls Tryz.prog 57 #[.string s, .int .i64 i] w (WdPost w i (wordP (s.toList.drop i))) := by
  obtain ⟨q, hq⟩ : ∃ q, wordP (s.toList.drop i) = q := ⟨_, rfl⟩
  rw [hq]
  have hpos : 1 ≤ ((s.toList.drop i).takeWhile digB).length := by rw [toList_drop s i hi]; exact takeWhile_pos hd
  rw [toList_drop s i hi, wordP_num hd, ← toList_drop s i hi] at hq
  unfold numP at hq
  have hrl : runL digitI s i = i + ((s.toList.drop i).takeWhile digB).length := rfl
  have hrle := runL_le digitI s (Nat.le_of_lt hi)
  have HRUN := Lib.hid (fun W => r2_run_digits s i W hs (Nat.le_of_lt hi))
  generalize runL digitI s i = j at hrl hrle HRUN
  have hij : i + 1 ≤ j := by omega
  have HJ := Lib.hid hrl
  have HQ := Lib.hid hq
  clear hq hrl hpos
  go_enter Tryz.func57, Tryz.ntmps57
  go_wp2_with (go_at_call 79; refine (r2_isDigit _ _).mono ?_; rintro e w' ⟨rfl, rfl⟩)
  refine Calls.mono (HRUN.out _) ?_
  rintro r w1 ⟨rfl, rfl⟩
  go_wp2_with fail
  go_loop [9] (fun tt => ∃ f : Nat, i ≤ f ∧ f + 1 ≤ j ∧ tt = .int .i64 f ∧ Hid (∀ x, i ≤ x → x < f → s.toList[x]? = some 48)) (fun tt => j - (intOf tt).toNat)
  case atStart => exact ⟨i, Nat.le_refl _, hij, rfl, fun x h1 h2 => by omega⟩
  case round =>
    obtain ⟨f, hif, hfj, rfl, HZ⟩ := hrel
    have hfs : f < s.size := by omega
    have hgo : (f + 1 = j ∨ ¬ s[f] = 48) → Hid (s.extract f j = bsOf (if ((s.toList.drop i).takeWhile digB).dropWhile (· == 48) = [] then [48] else ((s.toList.drop i).takeWhile digB).dropWhile (· == 48)) ∧ (19 < j - f ↔ 19 < (((s.toList.drop i).takeWhile digB).dropWhile (· == 48)).length)) := fun he => by
      have hJ := HJ.out
      have hl : f - i < ((s.toList.drop i).takeWhile digB).length := by omega
      have hn := num_trim hl (fun m hm => by rw [span_get digB s (by omega)]; exact HZ.out (i + m) (by omega) (by omega)) (by
        rcases he with h | h
        · left; omega
        · right
          rw [span_get digB s hl, show i + (f - i) = f from by omega, toList_get s f hfs]
          intro hh; injection hh with hh; exact h hh)
      refine ⟨bs_eq ?_, ?_⟩
      · rw [span_slice digB s hJ hif (by omega), hn.1]
      · rw [← hn.2]; omega
    by_cases hlt : f + 1 < j
    · by_cases h48 : s[f] = 48
      · have t48 : ((s[f].toNat : Int) == 48) = true := beq_lit h48
        have hfi : (f : Int) < (j : Int) - 1 := by omega
        have HZ2 : Hid (∀ x, i ≤ x → x < f + 1 → s.toList[x]? = some 48) := fun x h1 h2 => by
          rcases Nat.lt_or_ge x f with h | h
          · exact HZ.out x h1 h
          · have : x = f := by omega
            subst this
            rw [toList_get s x hfs, h48]
        clear h48 hgo
        go_wp2_with fail
        go_round
        case rel => exact ⟨f + 1, by omega, by omega, by go_num, HZ2⟩
        case measure => simp [intOf]; omega
      · have t48 : ((s[f].toNat : Int) == 48) = false := bne_lit h48
        have hfi : (f : Int) < (j : Int) - 1 := by omega
        have HG := hgo (.inr h48)
        clear h48 hgo
        by_cases h19 : 19 < j - f
        · have h19' : 19 < (j : Int) - (f : Int) := by omega
          have HR : Hid (q = .bad 4) := by show _ = _; rw [← HQ.out, if_pos (HG.out.2.1 h19)]
          clear h19 HQ HG
          go_wp2_with fail
          refine bodyPost_ret (v := wdV i (.bad 4)) (by simp [results, Tryz.results57, go_sem, wdV]) rfl (WdPost.mk (by rw [HR.out]) (by (repeat (first | assumption | exact Below.refl _ _ | apply Below.drew | apply below_drewN | (refine Below.alloc ?_ (by first | exact Nat.le_refl _ | omega | (simp; done) | (simp; omega)) _)))))
        · have h19' : ¬ 19 < (j : Int) - (f : Int) := by omega
          have HR : Hid (Ending.returned (.tuple #[.agg #[.int .i64 2, .string (s.extract f j), .int .i64 i], .int .i64 j, .int .i64 0]) = Ending.returned (wdV i q)) := by
            show _ = _
            rw [← HQ.out, if_neg (fun h => h19 (HG.out.2.2 h))]; exact wdV_ok HG.out.1 HJ.out
          clear h19 HQ HG
          go_wp2_with fail
          refine bodyPost_ret (v := .tuple #[.agg #[.int .i64 2, .string (s.extract f j), .int .i64 i], .int .i64 j, .int .i64 0]) (by simp [results, Tryz.results57, go_sem]) rfl (WdPost.mk HR.out (by (repeat (first | assumption | exact Below.refl _ _ | apply Below.drew | apply below_drewN | (refine Below.alloc ?_ (by first | exact Nat.le_refl _ | omega | (simp; done) | (simp; omega)) _)))))
    · have hfi : ¬ (f : Int) < (j : Int) - 1 := by omega
      have HG := hgo (.inl (by omega))
      clear hgo
      by_cases h19 : 19 < j - f
      · exfalso; omega
      · have h19' : ¬ 19 < (j : Int) - (f : Int) := by omega
        have HR : Hid (Ending.returned (.tuple #[.agg #[.int .i64 2, .string (s.extract f j), .int .i64 i], .int .i64 j, .int .i64 0]) = Ending.returned (wdV i q)) := by
          show _ = _
          rw [← HQ.out, if_neg (fun h => h19 (HG.out.2.2 h))]; exact wdV_ok HG.out.1 HJ.out
        clear h19 HQ HG
        go_wp2_with fail
        refine bodyPost_ret (v := .tuple #[.agg #[.int .i64 2, .string (s.extract f j), .int .i64 i], .int .i64 j, .int .i64 0]) (by simp [results, Tryz.results57, go_sem]) rfl (WdPost.mk HR.out (by (repeat (first | assumption | exact Below.refl _ _ | apply Below.drew | apply below_drewN | (refine Below.alloc ?_ (by first | exact Nat.le_refl _ | omega | (simp; done) | (simp; omega)) _)))))

end Go.Proofs.YtbommoefpekalaaGreatDoor
