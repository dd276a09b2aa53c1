/-
  THE WALKS of the reference: words: quoted.
-/
import Derived.Test.YtbommoefpekalaaGreatDoorRef7
import Derived.Test.YtbommoefpekalaaGreatDoorWPlain2
import Derived.Test.YtbommoefpekalaaGreatDoorWord8
import Derived.Test.YtbommoefpekalaaGreatDoorWord5
namespace Go.Proofs.YtbommoefpekalaaGreatDoor
open Go.RowKit

/-- A word, the byte behind it, what is wrong: as a call of the reference hands it back. -/
def wdV (i : Nat) : Wd → Value
  | .ok kind t n => .tuple #[.agg #[.int .i64 kind, .string (bsOf t), .int .i64 i], .int .i64 ((i : Int) + n), .int .i64 0]
  | .bad k => .tuple #[.agg #[.int .i64 0, .string ⟨#[]⟩, .int .i64 0], .int .i64 0, .int .i64 k]
/-- What a word's call owes. -/
def WdPost (w : World) (i : Nat) (q : Wd) (e : Ending) (w' : World) : Prop := e = .returned (wdV i q) ∧ Below w.heap.size w w'
theorem WdPost.mk {w : World} {i : Nat} {q : Wd} {e : Ending} {w' : World} (he : e = .returned (wdV i q)) (hb : Below w.heap.size w w') : WdPost w i q e w' := ⟨he, hb⟩
theorem bs_snoc (acc : List UInt8) (c : UInt8) (s : ByteArray) (k : Nat) (hk : k < s.size) (hc : s[k] = c) : bsOf acc ++ s.extract k (k + 1) = bsOf (acc ++ [c]) := by
  refine bs_eq ?_
  have h1 : (s.extract k (k + 1)).toList = [c] := by
    rw [ByteArray.toList_eq, Lib.extract_data, show k + 1 - k = 1 from by omega, ← ByteArray.toList_eq, toList_drop s k hk, hc]; rfl
  have h2 : (bsOf acc).toList = acc := by rw [ByteArray.toList_eq]; rfl
  rw [ByteArray.toList_eq] at h1 h2 ⊢
  rw [ByteArray.data_append, Array.toList_append, h1, h2]

set_option maxRecDepth 100000 in
set_option maxHeartbeats 3200000 in
theorem r2_quoted (s : ByteArray) (i : Nat) (w : World) (hs : s.size ≤ 140737488351232) (hi : i < s.size) :
    Calls Tryz.prog 82 #[.string s, .int .i64 i] w (WdPost w i (quoP (s.toList.drop (i + 1)) [] 1)) := by
  obtain ⟨q, hq⟩ : ∃ q, quoP (s.toList.drop (i + 1)) [] 1 = q := ⟨_, rfl⟩
  rw [hq]
  have HQ := Lib.hid hq
  clear hq
  go_enter Tryz.func82, Tryz.ntmps82
  go_wp2_with fail
  go_loop [7, 8] (fun tt ii => ∃ p : Nat, ∃ acc : List UInt8, ∃ bl : ByteArray, i + 1 ≤ p ∧ p ≤ s.size ∧ acc.length ≤ p ∧ tt = .string bl ∧ ii = .int .i64 p ∧ Hid (bl = bsOf acc) ∧ Hid (quoP (s.toList.drop p) acc (p - i) = q)) (fun _ ii => s.size - (intOf ii).toNat)
  case atStart => exact ⟨i + 1, [], ⟨#[]⟩, Nat.le_refl _, by omega, by simp, rfl, by go_num, rfl, by show _ = _; rw [show i + 1 - i = 1 from by omega]; exact HQ.out⟩
  case round =>
    obtain ⟨p, acc, bl, hip, hp, hacc, rfl, rfl, HB, HP⟩ := hrel
    have hbls : bl.size ≤ s.size := by rw [HB.out]; show acc.length ≤ _; omega
    by_cases hlt : p < s.size
    · have hsd := toList_drop s p hlt
      rw [hsd, quoP_cons] at HP
      clear hsd
      by_cases h34 : s[p] = 34
      · rw [if_pos h34] at HP
        have t34 : ((s[p].toNat : Int) != 34) = false := by rw [h34]; rfl
        have hbs : bl.size = acc.length := by rw [HB.out]; rfl
        clear h34
        by_cases h60 : 60 < acc.length
        · have HR : Hid (q = .bad 4) := by show _ = _; rw [← HP.out, if_pos h60]
          have h60' : 60 < (bl.size : Int) := by omega
          clear HP hbs
          go_wp2_with fail
          refine bodyPost_ret (v := wdV i (.bad 4)) (by simp [results, Tryz.results82, go_sem, wdV]) rfl (WdPost.mk (by rw [HR.out]) (by (repeat (first | assumption | exact Below.refl _ _ | apply Below.drew | apply below_drewN | (refine Below.alloc ?_ (by first | exact Nat.le_refl _ | omega | (simp; done) | (simp; omega)) _)))))
        · have HR : Hid (q = .ok 3 acc (p - i + 1)) := by show _ = _; rw [← HP.out, if_neg h60]
          have h60' : ¬ 60 < (bl.size : Int) := by omega
          have hv : wdV i (.ok 3 acc (p - i + 1)) = .tuple #[.agg #[.int .i64 3, .string bl, .int .i64 i], .int .i64 ((p : Int) + 1), .int .i64 0] := by
            rw [HB.out, ← show (i : Int) + ((p - i + 1 : Nat) : Int) = (p : Int) + 1 from by omega]; rfl
          clear HP hbs
          go_wp2_with fail
          refine bodyPost_ret (v := .tuple #[.agg #[.int .i64 3, .string bl, .int .i64 i], .int .i64 ((p : Int) + 1), .int .i64 0]) (by simp [results, Tryz.results82, go_sem]) rfl (WdPost.mk (by rw [HR.out, hv]) (by (repeat (first | assumption | exact Below.refl _ _ | apply Below.drew | apply below_drewN | (refine Below.alloc ?_ (by first | exact Nat.le_refl _ | omega | (simp; done) | (simp; omega)) _)))))
      · rw [if_neg h34] at HP
        have t34 : ((s[p].toNat : Int) != 34) = true := bne_lit2 (d := 34) h34
        clear h34
        by_cases h92 : s[p] = 92
        · rw [if_pos h92] at HP
          have t92 : ((s[p].toNat : Int) == 92) = true := beq_lit h92
          clear h92
          by_cases hlt1 : p + 1 < s.size
          · rw [toList_drop s (p + 1) hlt1] at HP
            have hix := run_index_str s (p + 1) hlt1
            have hix : ∀ W, (Instr.index 9 (.string s) (.int .i64 ((p : Int) + 1))).run Tryz.prog W = .ok (.int .u8 (s[p + 1].toNat : Int)) W := hix
            have hge : ¬ (s.size : Int) ≤ (p : Int) + 1 := by omega
            by_cases hq2 : s[p + 1] = 34 ∨ s[p + 1] = 92
            · have HP2 : Hid (quoP (s.toList.drop (p + 2)) (acc ++ [s[p + 1]]) (p + 2 - i) = q) := by
                show _ = _; rw [← HP.out]; simp only; rw [if_pos hq2, show p + 2 - i = p - i + 2 from by omega]
              have HB2 : Hid (bl ++ s.extract (p + 1) (p + 2) = bsOf (acc ++ [s[p + 1]])) := by show _ = _; rw [HB.out]; exact bs_snoc acc _ s (p + 1) hlt1 rfl
              have hlo : ¬ (s[p + 1].toNat : Int) < 32 := by rcases hq2 with h | h <;> rw [h] <;> decide
              have hhi : ¬ 126 < (s[p + 1].toNat : Int) := by rcases hq2 with h | h <;> rw [h] <;> decide
              clear HP
              rcases hq2 with hq2 | hq2
              · have e34 : ((s[p + 1].toNat : Int) != 34) = false := by rw [hq2]; rfl
                clear hq2
                go_wp2_with fail
                exact ⟨⟨p + 2, acc ++ [s[p + 1]], _, by omega, by omega, by rw [List.length_append, List.length_singleton]; omega, rfl, by go_num, HB2, HP2⟩, by simp [intOf]; omega⟩
              · have e34 : ((s[p + 1].toNat : Int) != 34) = true := by rw [hq2]; rfl
                have e92 : ((s[p + 1].toNat : Int) != 92) = false := by rw [hq2]; rfl
                clear hq2
                go_wp2_with fail
                exact ⟨⟨p + 2, acc ++ [s[p + 1]], _, by omega, by omega, by rw [List.length_append, List.length_singleton]; omega, rfl, by go_num, HB2, HP2⟩, by simp [intOf]; omega⟩
            · have HR : Hid (q = .bad 1) := by show _ = _; rw [← HP.out]; simp only; rw [if_neg hq2]
              have e34 : ((s[p + 1].toNat : Int) != 34) = true := bne_lit2 (d := 34) (fun h => hq2 (.inl h))
              have e92 : ((s[p + 1].toNat : Int) != 92) = true := bne_lit2 (d := 92) (fun h => hq2 (.inr h))
              clear HP hq2
              go_wp2_with fail
              refine bodyPost_ret (v := wdV i (.bad 1)) (by simp [results, Tryz.results82, go_sem, wdV]) rfl (WdPost.mk (by rw [HR.out]) (by (repeat (first | assumption | exact Below.refl _ _ | apply Below.drew | apply below_drewN | (refine Below.alloc ?_ (by first | exact Nat.le_refl _ | omega | (simp; done) | (simp; omega)) _)))))
          · have HR : Hid (q = .bad 1) := by show _ = _; rw [← HP.out, drop_noneW s (p + 1) (by omega)]
            have hge : (s.size : Int) ≤ (p : Int) + 1 := by omega
            clear HP
            go_wp2_with fail
            refine bodyPost_ret (v := wdV i (.bad 1)) (by simp [results, Tryz.results82, go_sem, wdV]) rfl (WdPost.mk (by rw [HR.out]) (by (repeat (first | assumption | exact Below.refl _ _ | apply Below.drew | apply below_drewN | (refine Below.alloc ?_ (by first | exact Nat.le_refl _ | omega | (simp; done) | (simp; omega)) _)))))
        · rw [if_neg h92] at HP
          have t92 : ((s[p].toNat : Int) == 92) = false := bne_lit h92
          clear h92
          by_cases hlo : (s[p].toNat : Int) < 32
          · have HR : Hid (q = .bad 1) := by show _ = _; rw [← HP.out, if_neg (by simp [plainB]; omega)]
            clear HP
            go_wp2_with fail
            refine bodyPost_ret (v := wdV i (.bad 1)) (by simp [results, Tryz.results82, go_sem, wdV]) rfl (WdPost.mk (by rw [HR.out]) (by (repeat (first | assumption | exact Below.refl _ _ | apply Below.drew | apply below_drewN | (refine Below.alloc ?_ (by first | exact Nat.le_refl _ | omega | (simp; done) | (simp; omega)) _)))))
          · by_cases hhi : 126 < (s[p].toNat : Int)
            · have HR : Hid (q = .bad 1) := by show _ = _; rw [← HP.out, if_neg (by simp [plainB]; omega)]
              clear HP
              go_wp2_with fail
              refine bodyPost_ret (v := wdV i (.bad 1)) (by simp [results, Tryz.results82, go_sem, wdV]) rfl (WdPost.mk (by rw [HR.out]) (by (repeat (first | assumption | exact Below.refl _ _ | apply Below.drew | apply below_drewN | (refine Below.alloc ?_ (by first | exact Nat.le_refl _ | omega | (simp; done) | (simp; omega)) _)))))
            · have HP2 : Hid (quoP (s.toList.drop (p + 1)) (acc ++ [s[p]]) (p + 1 - i) = q) := by
                show _ = _; rw [← HP.out, if_pos (by simp [plainB]; omega), show p + 1 - i = p - i + 1 from by omega]
              have HB2 : Hid (bl ++ s.extract p (p + 1) = bsOf (acc ++ [s[p]])) := by show _ = _; rw [HB.out]; exact bs_snoc acc _ s p hlt rfl
              clear HP
              go_wp2_with fail
              exact ⟨⟨p + 1, acc ++ [s[p]], _, by omega, by omega, by rw [List.length_append, List.length_singleton]; omega, rfl, by go_num, HB2, HP2⟩, by simp [intOf]; omega⟩
    · have HR : Hid (q = .bad 1) := by show _ = _; rw [← HP.out, drop_noneW s p (by omega)]; rfl
      clear HP
      go_wp2_with fail
      refine bodyPost_ret (v := wdV i (.bad 1)) (by simp [results, Tryz.results82, go_sem, wdV]) rfl (WdPost.mk (by rw [HR.out]) (by (repeat (first | assumption | exact Below.refl _ _ | apply Below.drew | apply below_drewN | (refine Below.alloc ?_ (by first | exact Nat.le_refl _ | omega | (simp; done) | (simp; omega)) _)))))
end Go.Proofs.YtbommoefpekalaaGreatDoor
