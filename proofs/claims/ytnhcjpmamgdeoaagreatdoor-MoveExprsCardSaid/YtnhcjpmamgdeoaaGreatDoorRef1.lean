/-
  THE WALKS of the reference: names and texts.
-/
import Derived.Test.YtnhcjpmamgdeoaaGreatDoorNames
import Derived.Test.YtnhcjpmamgdeoaaGreatDoorBase
namespace Go.Proofs.YtnhcjpmamgdeoaaGreatDoor
open Go.RowKit

/-- Does it begin with a letter, if with anything? -/
def headB (l : List UInt8) : Bool := match l with | [] => true | c :: _ => letterI (c.toNat : Int)
theorem nameErr_cons (c : UInt8) (r : List UInt8) : nameErr (c :: r) = if letterI (c.toNat : Int) = false then 1 else if (c :: r).all nameB = false then 1 else if 20 < (c :: r).length then 4 else 0 := rfl
theorem nameErr_bad {l : List UInt8} (h : headB l = false ∨ l.all nameB = false) : nameErr l = 1 := by
  cases l with
  | nil => rfl
  | cons c r =>
    rw [nameErr_cons]
    by_cases h1 : letterI (c.toNat : Int) = false
    · rw [if_pos h1]
    · rw [if_neg h1]
      rcases h with h | h
      · exact absurd h h1
      · rw [if_pos h]
theorem nameErr_end {l : List UInt8} (hne : l.length ≠ 0) (hh : headB l = true) (ha : l.all nameB = true) : nameErr l = if 20 < l.length then 4 else 0 := by
  cases l with
  | nil => exact absurd rfl hne
  | cons c r =>
    have hc : letterI (c.toNat : Int) = true := hh
    rw [nameErr_cons, if_neg (by rw [hc]; decide), if_neg (by rw [ha]; decide)]

theorem drop_none (s : ByteArray) (k : Nat) (h : s.size ≤ k) : s.toList.drop k = [] := List.drop_eq_nil_of_le (by rw [toList_len]; exact h)
theorem toList_drop (s : ByteArray) (k : Nat) (h : k < s.size) : s.toList.drop k = s[k] :: s.toList.drop (k + 1) := by
  have h1 := toList_get s k h
  have h2 : k < s.toList.length := by rw [toList_len]; exact h
  rw [List.drop_eq_getElem_cons h2]
  rw [List.getElem?_eq_getElem h2] at h1
  injection h1 with h1
  rw [h1]

set_option maxRecDepth 100000 in
set_option maxHeartbeats 400000 in
theorem r1_isLetter (b : Int) (w : World) :
    Calls Tryz.prog 52 #[.int .u8 b] w fun e w' => e = .returned (.bool (letterI b)) ∧ w = w' := by
  go_enter Tryz.func52, Tryz.ntmps52
  go_wp2
  all_goals (go_ret; exact ⟨ret_bool (by rw [Bool.eq_iff_iff]; simp [letterI]; omega), rfl⟩)
set_option maxRecDepth 100000 in
set_option maxHeartbeats 400000 in
theorem r1_isDigit (b : Int) (w : World) :
    Calls Tryz.prog 53 #[.int .u8 b] w fun e w' => e = .returned (.bool (digitI b)) ∧ w = w' := by
  go_enter Tryz.func53, Tryz.ntmps53
  go_wp2
  all_goals (go_ret; exact ⟨ret_bool (by rw [Bool.eq_iff_iff]; simp [digitI]; omega), rfl⟩)

set_option maxRecDepth 100000 in
set_option maxHeartbeats 400000 in
theorem r1_NameFault (s : ByteArray) (w : World) (hs : s.size ≤ 140737488351232) :
    Calls Tryz.prog 28 #[.string s] w fun e w' => e = .returned (.int .i64 (nameErr s.toList)) ∧ w = w' := by
  go_enter Tryz.func28, Tryz.ntmps28
  go_wp2_with fail
  go_loop [3] (fun i => ∃ k : Nat, k ≤ s.size ∧ i = .int .i64 k ∧ Hid ((s.toList.take k).all nameB = true) ∧ Hid (k = 0 ∨ headB s.toList = true)) (fun i => s.size - (intOf i).toNat)
  case atStart => exact ⟨0, by omega, rfl, by simp [Hid], .inl rfl⟩
  case round =>
    obtain ⟨k, hk, rfl, HK, HF⟩ := hrel
    by_cases hlt : k < s.size
    · have HG := Lib.hid (toList_get s k hlt)
      have HD : Hid (k = 0 → headB s.toList = letterI (s[k].toNat : Int)) := by
        intro h0
        subst h0
        obtain ⟨l, hl⟩ := toList_cons hlt
        rw [hl]; rfl
      by_cases h1 : letterI (s[k].toNat : Int) = true
      · go_wp2_with (go_at_call 52; refine (r1_isLetter _ _).mono ?_; rintro e w' ⟨rfl, rfl⟩)
        exact ⟨⟨k + 1, by omega, by go_num, all_take _ _ _ _ HK.out HG.out (by simp [nameB, h1]), (by
          rcases HF.out with h | h
          · right; rw [HD.out h]; exact h1
          · exact .inr h)⟩, by simp [intOf]; omega⟩
      · have h1' : letterI (s[k].toNat : Int) = false := by simpa using h1
        clear h1
        by_cases h0 : k = 0
        · have hz : (((k : Nat) : Int) == 0) = true := by simp [h0]
          have HB : Hid (nameErr s.toList = 1) := nameErr_bad (.inl (by rw [HD.out h0]; exact h1'))
          clear h0
          go_wp2_with (go_at_call 52; refine (r1_isLetter _ _).mono ?_; rintro e w' ⟨rfl, rfl⟩)
          go_ret
          exact ⟨ret_int HB.out.symm, rfl⟩
        · have hz : (((k : Nat) : Int) == 0) = false := by simp [h0]
          have HH : Hid (headB s.toList = true) := HF.out.resolve_left h0
          clear h0
          by_cases h2 : digitI (s[k].toNat : Int) = true
          · go_wp2_with (first | (go_at_call 52; refine (r1_isLetter _ _).mono ?_; rintro e w' ⟨rfl, rfl⟩) | (go_at_call 53; refine (r1_isDigit _ _).mono ?_; rintro e w' ⟨rfl, rfl⟩))
            exact ⟨⟨k + 1, by omega, by go_num, all_take _ _ _ _ HK.out HG.out (by simp [nameB, h2]), .inr HH.out⟩, by simp [intOf]; omega⟩
          · have h2' : digitI (s[k].toNat : Int) = false := by simpa using h2
            have HB : Hid (nameErr s.toList = 1) := nameErr_bad (.inr (all_bad s.toList nameB k s[k] HG.out (by simp [nameB, h1', h2'])))
            clear h2
            go_wp2_with (first | (go_at_call 52; refine (r1_isLetter _ _).mono ?_; rintro e w' ⟨rfl, rfl⟩) | (go_at_call 53; refine (r1_isDigit _ _).mono ?_; rintro e w' ⟨rfl, rfl⟩))
            go_ret
            exact ⟨ret_int HB.out.symm, rfl⟩
    · have hks : k = s.size := by omega
      subst hks
      have ha : s.toList.all nameB = true := by have := HK.out; rwa [List.take_of_length_le (by rw [toList_len]; omega)] at this
      have hsz := toList_len s
      by_cases h0 : s.size = 0
      · have hz : ((s.size : Int) == 0) = true := by simp [h0]
        have HB : Hid (nameErr s.toList = 1) := by
          have h5 : s.toList = [] := List.eq_nil_of_length_eq_zero (by omega)
          show _ = _
          rw [h5]; rfl
        clear h0 ha hsz
        go_wp2_with fail
        go_ret
        exact ⟨ret_int HB.out.symm, rfl⟩
      · have hz : ((s.size : Int) == 0) = false := by simp [h0]
        have HB : Hid (nameErr s.toList = if 20 < s.size then 4 else 0) := by
          show _ = _
          rw [nameErr_end (by omega) (HF.out.resolve_left h0) ha, hsz]
        clear h0 ha hsz
        by_cases h20 : 20 < s.size
        · go_wp2_with fail
          go_ret
          exact ⟨ret_int (by rw [HB.out, if_pos h20]), rfl⟩
        · go_wp2_with fail
          go_ret
          exact ⟨ret_int (by rw [HB.out, if_neg h20]), rfl⟩
set_option maxRecDepth 100000 in
set_option maxHeartbeats 400000 in
theorem r1_TextFault (s : ByteArray) (w : World) (hs : s.size ≤ 140737488351232) :
    Calls Tryz.prog 98 #[.string s] w fun e w' => e = .returned (.int .i64 (textErr s.toList)) ∧ w = w' := by
  have HZ := Lib.hid (toList_len s)
  by_cases h60 : 60 < s.size
  · go_enter Tryz.func98, Tryz.ntmps98
    go_wp2_with fail
    go_ret
    have hz := HZ.out
    exact ⟨ret_int (by simp [textErr, hz, h60]), rfl⟩
  · go_enter Tryz.func98, Tryz.ntmps98
    go_wp2_with fail
    go_loop [3] (fun i => ∃ k : Nat, k ≤ s.size ∧ i = .int .i64 k ∧ Hid ((s.toList.take k).all plainB = true)) (fun i => s.size - (intOf i).toNat)
    case atStart => exact ⟨0, by omega, rfl, by simp [Hid]⟩
    case round =>
      obtain ⟨k, hk, rfl, HK⟩ := hrel
      by_cases hlt : k < s.size
      · have HG := Lib.hid (toList_get s k hlt)
        by_cases h1 : (s[k].toNat : Int) < 32
        · go_wp2_with fail
          go_ret
          have hb := all_bad s.toList plainB k s[k] HG.out (by simp [plainB]; omega)
          have hz := HZ.out
          exact ⟨ret_int (by simp [textErr, hz, h60, hb]), rfl⟩
        · by_cases h2 : 126 < (s[k].toNat : Int)
          · go_wp2_with fail
            go_ret
            have hb := all_bad s.toList plainB k s[k] HG.out (by simp [plainB]; omega)
            have hz := HZ.out
            exact ⟨ret_int (by simp [textErr, hz, h60, hb]), rfl⟩
          · go_wp2_with fail
            exact ⟨⟨k + 1, by omega, by go_num, all_take _ _ _ _ HK.out HG.out (by simp [plainB]; omega)⟩, by simp [intOf]; omega⟩
      · have hks : k = s.size := by omega
        subst hks
        have HA : Hid (s.toList.all plainB = true) := by have := HK.out; rwa [List.take_of_length_le (by rw [toList_len]; omega)] at this
        go_wp2_with fail
        go_ret
        have ha := HA.out
        have hz := HZ.out
        exact ⟨ret_int (by simp [textErr, hz, h60, ha]), rfl⟩
end Go.Proofs.YtnhcjpmamgdeoaaGreatDoor
